/-
  The engine, second make, first part: abstract values, what each operation comes to, memory. Over any program.
-/
import Derived.WalkKit
import Derived.WalkLawsBesides
import Derived.RangeFuncLeaves
import Derived.OrdersIn
import Derived.TacticsIn
import Derived.Deep.AppendSrc
import Derived.Lib.Strings
import Derived.LaidEql
set_option linter.all false
open Array renaming ext'->Cp,getElem?_eq_some_iff->Ef,length_toList->Eg,toList_append->Kn,toList_map->Gn
open Bool renaming and_eq_true->Ad,not_eq_true'->Cb,or_eq_true->Dg
open Go.Builtin renaming append_->Cd,firstCells->Bv,zeroCells->Bz
open Go.Instr renaming checkKey->Fw
open Go.Region renaming binds->Ha
open Go.Result renaming andThen_ok->Ak
open Go.Sem renaming run_bind->Av,run_pure->Az
open Go.Value renaming int->Hl,ownBlock->Fh,slice->Ff
open Go.World renaming block_lt_of_cell?->Cj,cell?_of_block->Cg,ownsRow_nil->Gg,setRow->Ii
open Int renaming fdiv_eq_ediv_of_nonneg->Gh
open List renaming all_eq_true->Cl,append_assoc->Aj,append_nil->Ay,cons_append->Hj,drop_eq_nil_of_le->Af,drop_zero->Db,eq_nil_of_length_eq_zero->Au,ext_getElem?->Ee,getElem?_append_left->Ah,getElem?_append_right->Aq,getElem?_cons_succ->Fv,getElem?_drop->Bu,getElem?_eq_getElem->Ac,getElem?_eq_none->Bf,getElem?_eq_some_iff->Ab,getElem?_map->Bb,getElem?_of_mem->Cz,getElem?_range->Cm,getElem?_replicate->Dz,getElem?_set_ne->Bd,getElem?_set_self->Ax,getElem?_take->En,getElem?_take_of_lt->Bj,getElem_mem->Bn,getLast?_append->Kj,getLast?_eq_getElem?->Iy,getLast?_eq_some_getLast->Hx,length->Hu,length_append->Ag,length_drop->Dy,length_map->Cv,length_pos_iff->Fp,length_take->Cq,map_cons->Cn,mem_append->Ba,mem_cons->Bh,mem_map->Cy,mem_of_getElem?->Aw,mem_of_mem_drop->Dp,mem_of_mem_take->Ch,mem_range->Gj,nil_append->Ez,nodup_cons->Dr,prefix_refl->Cr,range->Dc,replicate->Ai,size_toArray->Fo,take_left->Gz,take_zero->Ft
open Nat renaming add_assoc->Gr,add_mul->Cc,add_sub_cancel->Iq,add_sub_cancel_left->Ev,add_zero->Dk,beq->Ar,beq_refl->Jt,ble->Ea,blt->Du,blt_eq->Ep,div_add_mod->Ib,div_lt_iff_lt_mul->Gd,div_one->Ki,eq_of_beq_eq_true->Hi,eq_zero_or_pos->Fz,le_of_ble_eq_true->Bw,le_refl->Bc,le_succ->Jc,le_trans->Cx,lor->Ku,lt_of_lt_of_le->Dn,min_eq_left->Ei,mod_eq_of_lt->Dx,mod_lt->Iu,mod_one->Kh,mul_add_div->Ka,mul_add_mod->Kb,mul_comm->Dj,mul_le_mul_right->Bp,sub_zero->Fy,zero_add->Bk,zero_le->Bm,zero_mul->Ij
open Option renaming getD_some->Jo,isSome_iff_exists->Ct,map_eq_some_iff->Bx,map_some->Kc
open Option.some renaming injEq->Cu
namespace Go.AW
open Go.RowKit
def cC:IntKind->Int
 | .i8=> -128 | .i16=> -32768 | .i32=> -2147483648 | .i64=> -9223372036854775808 | _=>0
def bF:IntKind->Int
 | .i8=>127 | .i16=>32767 | .i32=>2147483647 | .i64=>9223372036854775807
 | .u8=>255 | .u16=>65535 | .u32=>4294967295 | .u64=>18446744073709551615
def inR (k:IntKind) (n:Int):Prop:=cC k<=n/\n<=bF k
inductive Tk where
 | no | nil | full | own (k g:Nat)
inductive AVal where
 | undef
 | bool (b:Bool)
 | int (k:IntKind) (n:Int)
 | str (l:List UInt8)
 | slice (sz:Nat) (xs:List AVal) (t:Tk)
 | agg (cs:List AVal)
 | tup (vs:List AVal)
 | ptr (cs:List AVal)
 | ref (k off:Nat)
 | eref (k g i sz off:Nat)
 | csl (k off len sz:Nat)
 | row (k g:Nat)
 | sub (k g lo len sz:Nat)
 | rowc (k g c:Nat)
 | pre (k g n c sz:Nat)
 | mref (k:Nat)
 | nilptr | nilslice | nilmap | nilfunc | nilif
 | hsl (a:Option Addr) (n c:Nat)
 | func (fn:Fn) (first caps:List AVal)
 | iface (t:TypeId) (v:AVal)
def AVal.cells:AVal->List AVal
 | .agg cs=>cs
 | v=>[v]
abbrev Imm:=Nat->Nat->AVal->Prop
def NoM (M:Imm) (b o:Nat):Prop:=∀ x,¬ M b o x
abbrev Hs:=List (List Value)
def at' (ob:Hs) (k g:Nat):Option Value:=(ob[k]?).bind fun hs=>hs[g]?
def dD (ob ob':Hs):Prop:=∀ (k:Nat) hs,ob[k]? =some hs->∃ hs',ob'[k]? =some hs'/\hs<+:hs'
theorem dD.refl (ob:Hs):dD ob ob:=fun _ hs h=>⟨hs,h,Cr _⟩
theorem dD.trans {a b c:Hs} (h:dD a b) (k:dD b c):dD a c:=fun i hs hi=>by
 obtain ⟨h1,e1,p1⟩:=h i hs hi
 obtain ⟨h2,e2,p2⟩:=k i h1 e1
 exact ⟨h2,e2,p1.trans p2⟩
theorem dD.at {ob ob':Hs} (h:dD ob ob') {k g:Nat} {v:Value} (hv:at' ob k g=some v):at' ob' k g=some v:=by
 unfold at' at *
 cases hk:ob[k]? with
 | none=>rw [hk] at hv;cases hv
 | some hs=>
  rw [hk] at hv
  obtain ⟨hs',e,p⟩:=h k hs hk
  rw [e]
  simp only [Option.bind_some] at hv⊢
  obtain ⟨t,rfl⟩:=p
  rw [Ah (Ab.1 hv).1]
  exact hv
def pC (ob:Hs) (v:Value):Tk->Prop
 | .no=>True
 | .nil=>v= .slice none 0 0
 | .full=>∃ a n,v= .slice a n n
 | .own k g=>at' ob k g=some v
theorem pC.mono {ob ob':Hs} (ho:dD ob ob') {v:Value} {t:Tk} (h:pC ob v t):pC ob' v t:=by
 cases t with
 | own k g=>exact ho.at h
 | _=>exact h
inductive Rep (M:Imm) (ob:Hs):Value->AVal->Prop
 | undef (v):Rep M ob v .undef
 | bool (b):Rep M ob (.bool b) (.bool b)
 | int (k n) (h:inR k n):Rep M ob (.int k n) (.int k n)
 | str (l:List UInt8) (h:(l.length:Int)<=9223372036854775807):Rep M ob (.string ⟨l.toArray⟩) (.str l)
 | agg (vs:List Value) (as:List AVal) (hl:vs.length=as.length) (h:∀ (i:Nat) v a,vs[i]? =some v->as[i]? =some a->Rep M ob v a):Rep M ob (.agg vs.toArray) (.agg as)
 | tup (vs:List Value) (as:List AVal) (hl:vs.length=as.length) (h:∀ (i:Nat) v a,vs[i]? =some v->as[i]? =some a->Rep M ob v a):Rep M ob (.tuple vs.toArray) (.tup as)
 | ptr (b o:Nat) (cs:List AVal) (h:∀ (j:Nat) c,cs[j]? =some c->M b (o+j) c):Rep M ob (.pointer (some ⟨b,o,none⟩)) (.ptr cs)
 | ref (k off b:Nat) (h:at' ob k 0=some (.pointer (some ⟨b,0,none⟩))):Rep M ob (.pointer (some ⟨b,off,none⟩)) (.ref k off)
 | eref (k g i sz off b n c:Nat) (h:at' ob k g=some (.slice (some ⟨b,0,none⟩) n c)):Rep M ob (.pointer (some ⟨b,i*sz+off,none⟩)) (.eref k g i sz off)
 | csl (k off len sz b:Nat) (h:at' ob k 0=some (.pointer (some ⟨b,0,none⟩))) (hm:(len:Int)<=9223372036854775807):Rep M ob (.slice (some ⟨b,off,none⟩) len len) (.csl k off len sz)
 | row (k g:Nat) (a:Option Addr) (n c:Nat) (h:at' ob k g=some (.slice a n c)):Rep M ob (.slice a n c) (.row k g)
 | sub (k g lo len sz b n c:Nat) (h:at' ob k g=some (.slice (some ⟨b,0,none⟩) n c)) (hl:lo<c) (hn:lo+len<=n) (hc:n<=c) (hm:(n:Int)<=9223372036854775807):Rep M ob (.slice (some ⟨b,lo*sz,none⟩) len (c-lo)) (.sub k g lo len sz)
 | sub0 (k g lo sz:Nat) (a a':Option Addr) (n c:Nat) (h:at' ob k g=some (.slice a n c)) (hl:lo=n) (hc:n=c):Rep M ob (.slice a' 0 0) (.sub k g lo 0 sz)
 | rowc (k g c:Nat) (a:Option Addr) (n:Nat) (h:at' ob k g=some (.slice a n c)) (hm:(c:Int)<=9223372036854775807):Rep M ob (.slice a n c) (.rowc k g c)
 | pre (k g n c sz b len:Nat) (h:at' ob k g=some (.slice (some ⟨b,0,none⟩) len c)) (hc:0<c) (hn:n<=len) (hl:len<=c) (hm:(c:Int)<=9223372036854775807):Rep M ob (.slice (some ⟨b,0,none⟩) n c) (.pre k g n c sz)
 | mref (k b:Nat) (h:at' ob k 0=some (.map (some b))):Rep M ob (.map (some b)) (.mref k)
 | nilptr:Rep M ob (.pointer none) .nilptr
 | nilslice:Rep M ob (.slice none 0 0) .nilslice
 | nilmap:Rep M ob (.map none) .nilmap
 | nilfunc:Rep M ob .nilFunc .nilfunc
 | nilif:Rep M ob .nilIface .nilif
 | hsl (a:Option Addr) (n c:Nat):Rep M ob (.slice a n c) (.hsl a n c)
 | slnil (sz:Nat) (t:Tk) (ht:pC ob (.slice none 0 0) t):Rep M ob (.slice none 0 0) (.slice sz [] t)
 | slemp (sz:Nat) (t:Tk) (a:Addr) (cap:Nat) (ht:pC ob (.slice (some a) 0 cap) t):Rep M ob (.slice (some a) 0 cap) (.slice sz [] t)
 | sl (sz b o n cap:Nat) (xs:List AVal) (t:Tk) (hn:xs.length=n) (hc:n<=cap) (hm:(n:Int)<=9223372036854775807) (hz:∀ x∈xs,x.cells.length=sz)
   (h:∀ (i j:Nat) x c,xs[i]? =some x->x.cells[j]? =some c->M b (o+i*sz+j) c) (ht:pC ob (.slice (some ⟨b,o,none⟩) n cap) t):Rep M ob (.slice (some ⟨b,o,none⟩) n cap) (.slice sz xs t)
 | func (fn:Fn) (fs cs:List Value) (fa ca:List AVal) (hf:fs.length=fa.length) (hc:cs.length=ca.length)
   (h1:∀ (i:Nat) v a,fs[i]? =some v->fa[i]? =some a->Rep M ob v a) (h2:∀ (i:Nat) v a,cs[i]? =some v->ca[i]? =some a->Rep M ob v a):
   Rep M ob (.func fn fs.toArray cs.toArray) (.func fn fa ca)
 | iface (t:TypeId) (v:Value) (a:AVal) (h:Rep M ob v a):Rep M ob (.iface t v) (.iface t a)
theorem Rep.mono {M M':Imm} {ob ob':Hs} (hM:∀ b o x,M b o x->M' b o x) (ho:dD ob ob') {v:Value} {a:AVal} (h:Rep M ob v a):Rep M' ob' v a:=by
 induction h with
 | undef v=>exact .undef v
 | bool b=>exact .bool b
 | int k n h=>exact .int k n h
 | str l h=>exact .str l h
 | agg vs as hl _ ih=>exact .agg vs as hl ih
 | tup vs as hl _ ih=>exact .tup vs as hl ih
 | ptr b o cs h=>exact .ptr b o cs fun j c hc=>hM _ _ _ (h j c hc)
 | ref k off b h=>exact .ref k off b (ho.at h)
 | eref k g i sz off b n c h=>exact .eref k g i sz off b n c (ho.at h)
 | csl k off len sz b h hm=>exact .csl k off len sz b (ho.at h) hm
 | row k g a n c h=>exact .row k g a n c (ho.at h)
 | sub k g lo len sz b n c h hl hn hc hm=>exact .sub k g lo len sz b n c (ho.at h) hl hn hc hm
 | sub0 k g lo sz a a' n c h hl hc=>exact .sub0 k g lo sz a a' n c (ho.at h) hl hc
 | rowc k g c a n h hm=>exact .rowc k g c a n (ho.at h) hm
 | pre k g n c sz b len h hc hn hl hm=>exact .pre k g n c sz b len (ho.at h) hc hn hl hm
 | mref k b h=>exact .mref k b (ho.at h)
 | nilptr=>exact .nilptr
 | nilslice=>exact .nilslice
 | nilmap=>exact .nilmap
 | nilfunc=>exact .nilfunc
 | nilif=>exact .nilif
 | hsl a n c=>exact .hsl a n c
 | slnil sz t ht=>exact .slnil sz t (ht.mono ho)
 | slemp sz t a cap ht=>exact .slemp sz t a cap (ht.mono ho)
 | sl sz b o n cap xs t hn hc hm hz h ht=>exact .sl sz b o n cap xs t hn hc hm hz (fun i j x c hx hj=>hM _ _ _ (h i j x c hx hj)) (ht.mono ho)
 | func fn fs cs fa ca hf hc _ _ ih1 ih2=>exact .func fn fs cs fa ca hf hc ih1 ih2
 | iface t v a _ ih=>exact .iface t v a ih
theorem E3 (ob:Hs):dD [] ob:=fun k hs h=>by simp at h
theorem Rep.pure {M:Imm} {ob:Hs} {v:Value} {a:AVal} (h:Rep M [] v a):Rep M ob v a:=h.mono (fun _ _ _ h=>h) (E3 ob)
theorem Rep.monoM {M M':Imm} {ob:Hs} {v:Value} {a:AVal} (h:Rep M ob v a) (hM:∀ b o x,M b o x->M' b o x):Rep M' ob v a:=h.mono hM (dD.refl _)
structure BInv where
 inv:Imm->List Nat->World->Prop
 mono:∀ {M M':Imm} {bs:List Nat} {w w':World},(∀ b o x,M b o x->M' b o x)->(∀ b,b∈bs->∀ o,NoM M b o->NoM M' b o)->(∀ b c,b∈bs->w.heap[b]? =some c->w'.heap[b]? =some c)->inv M bs w->inv M' bs w'
def xO:Obj->Bool
 | .deferred _=>true
 | _=>false
def fM (bs:List Nat):Value:=.tuple (bs.map fun b=>Value.map (some b)).toArray
inductive AObj where
 | dead
 | cells (T:TypeId) (cs:List AVal)
 | fcells (cs:List AVal)
 | row (g sz:Nat) (e:TypeId) (xs:List AVal)
 | frow (g sz:Nat) (xs:List AVal)
 | tail (g sz:Nat) (e:TypeId)
 | mp (ag:Bool) (es:List (List Int×AVal))
 | bun (g:Nat) (I:BInv)
def aAE:Value->Option Nat
 | .map (some b)=>some b
 | _=>none
def C5:Value->List Nat
 | .pointer (some a)=>[a.block]
 | .slice (some a) _ _=>[a.block]
 | .map (some b)=>[b]
 | .tuple vs=>vs.toList.filterMap aAE
 | _=>[]
def blk (hs:List Value):List Nat:=match hs.getLast? with | some v=>C5 v | none=>[]
theorem C4 {hs:List Value} {bs:List Nat} (h:hs.getLast? =some (fM bs)):blk hs=bs:=by
 unfold blk
 rw [h]
 show (bs.map fun b=>Value.map (some b)).filterMap aAE=bs
 clear h
 induction bs with
 | nil=>rfl
 | cons b r ih=>simp only [Cn,List.filterMap_cons,aAE,ih]
theorem cZ {b c:Nat}:b∈([c]:List Nat)↔c=b:=by simp [eq_comm]
def AObj.owns:AObj->Bool
 | .dead | .fcells _ | .frow _ _ _=>false
 | _=>true
def aH (sz:Nat) (xs:List AVal) (q:Nat):Option AVal:=(xs[q / sz]?).bind fun x=>x.cells[q % sz]?
def IW (w:World) (v:Value):Prop:=∀ b,v.ownBlock=some b->∀ cur T fz,w.heap[b]? =some (.cells cur T fz)->∀ u∈cur.toList,u.oneCell'=true
def cV (M:Imm) (w:World) (v:Value) (sz:Nat) (e:TypeId) (xs:List AVal):Prop:=
 ∃ cv,w.ownsRow 0 e sz v xs.length cv/\(∀ u∈cv,u.oneCell'=true)/\(∀ x∈xs,x.cells.length=sz)/\
  (∀ (q:Nat) c,aH sz xs q=some c->∃ u,cv[q]? =some u/\Rep M [] u c)/\(∀ b,v.ownBlock=some b->∀ o,NoM M b o)/\IW w v
def eJ (ag:Bool) (l:List Int):Value:=if ag then .agg (l.map (Hl .i64)).toArray else .int .i64 (l.headD 0)
def NY (M:Imm) (w:World) (b:Nat) (ag:Bool) (es:List (List Int×AVal)):Prop:=
 ∃ (en:List MapEntry) (clock:Nat),w.heap[b]? =some (.map en.toArray clock)/\en.length=es.length/\(∀ (i:Nat) x y,en[i]? =some x->es[i]? =some y->x.key=eJ ag y.1/\(ag=false->y.1.length=1)/\Rep M [] x.val y.2)/\
  (∀ (i:Nat) x,en[i]? =some x->x.born<clock)/\∀ (i j:Nat) x y,en[i]? =some x->en[j]? =some y->x.born=y.born->i=j
def gD (M:Imm) (ob:Hs) (w:World) (hs:List Value):AObj->Prop
 | .dead=>True
 | .cells T cs=>∃ b,hs=[.pointer (some ⟨b,0,none⟩)]/\(∀ o,NoM M b o)/\∃ (cv:List Value),w.heap[b]? =some (.cells cv.toArray T (0,0))/\cv.length=cs.length/\(∀ v∈cv,v.oneCell'=true)/\
   ∀ (i:Nat) v a,cv[i]? =some v->cs[i]? =some a->Rep M ob v a
 | .fcells cs=>∃ b,hs=[.pointer (some ⟨b,0,none⟩)]/\∀ (j:Nat) c,cs[j]? =some c->M b j c
 | .row g sz e xs=>hs.length=g+1/\∃ v,hs[g]? =some v/\cV M w v sz e xs
 | .frow g sz xs=>∃ v,hs[g]? =some v/\Rep M [] v (.slice sz xs .no)
 | .tail g sz e=>hs.length=g+1/\∃ v,hs[g]? =some v/\∃ n cv,w.ownsRow 0 e sz v n cv/\∀ b,v.ownBlock=some b->∀ o,n*sz<=o->NoM M b o
 | .mp ag es=>∃ b,hs=[.map (some b)]/\(∀ o,NoM M b o)/\NY M w b ag es
 | .bun g I=>hs.length=g+1/\∃ bs,hs[g]? =some (fM bs)/\(∀ b,b∈bs->∃ o,w.heap[b]? =some o/\xO o=false)/\I.inv M bs w
def aM (ob:Hs) (obs:List AObj) (k b:Nat):Prop:=∃ c hs,obs[k]? =some c/\c.owns=true/\ob[k]? =some hs/\b∈blk hs
structure Mem (M:Imm) (ob:Hs) (obs:List AObj) (w:World):Prop where
 imm:∀ b o x,M b o x->∃ v,w.cell? ⟨b,o,none⟩=some v/\v.oneCell'=true/\Rep M [] v x
 len:ob.length=obs.length
 obj:∀ (k:Nat) c,obs[k]? =some c->∃ hs,ob[k]? =some hs/\gD M ob w hs c
 lt:∀ k b,aM ob obs k b->b<w.heap.size
 inj:∀ k k' b,aM ob obs k b->aM ob obs k' b->k=k'
structure Ext (M:Imm) (ob:Hs) (obs:List AObj) (w:World) (M':Imm) (ob':Hs) (obs':List AObj) (w':World):Prop where
 imm:∀ b o x,M b o x->M' b o x
 new:∀ b o x,M' b o x->M b o x\/w.heap.size<=b\/∃ k,aM ob obs k b
 hs:dD ob ob'
 os:w'.os=w.os
 tape:w'.tape=w.tape
 output:w'.output=w.output
 size:w.heap.size<=w'.heap.size
 keep:∀ b,b<w.heap.size->(∀ k,¬ aM ob obs k b)->w'.heap[b]? =w.heap[b]?
 fresh:∀ k b,aM ob' obs' k b->(∃ k',aM ob obs k' b)\/w.heap.size<=b
theorem Ext.refl (M:Imm) (ob:Hs) (obs:List AObj) (w:World):Ext M ob obs w M ob obs w where
 imm _ _ _ h:=h
 new _ _ _ h:=.inl h
 hs:=dD.refl _
 os:=rfl
 tape:=rfl
 output:=rfl
 size:=Bc _
 keep _ _ _:=rfl
 fresh k _ h:=.inl ⟨k,h⟩
theorem Ext.trans {M M1 M2:Imm} {ob ob1 ob2:Hs} {obs obs1 obs2:List AObj} {w w1 w2:World} (h:Ext M ob obs w M1 ob1 obs1 w1) (k:Ext M1 ob1 obs1 w1 M2 ob2 obs2 w2):
  Ext M ob obs w M2 ob2 obs2 w2 where
 imm b o x hx:=k.imm _ _ _ (h.imm _ _ _ hx)
 new b o x hx:=by
  rcases k.new b o x hx with h1 | h1 | ⟨i,hi⟩
  .exact h.new b o x h1
  .exact .inr (.inl (Cx h.size h1))
  .rcases h.fresh i b hi with h2 | h2
   .exact .inr (.inr h2)
   .exact .inr (.inl h2)
 hs:=h.hs.trans k.hs
 os:=k.os.trans h.os
 tape:=k.tape.trans h.tape
 output:=k.output.trans h.output
 size:=Cx h.size k.size
 keep b hb ho:=by
  rw [<-h.keep b hb ho]
  refine k.keep b (Dn hb h.size) fun i hi=>?_
  rcases h.fresh i b hi with ⟨j,hj⟩ | h2
  .exact ho j hj
  .omega
 fresh i b hi:=by
  rcases k.fresh i b hi with ⟨j,hj⟩ | h1
  .exact h.fresh j b hj
  .exact .inr (Cx h.size h1)
def cF (ob:Hs) (obs:List AObj) (ob':Hs) (obs':List AObj):Prop:=∀ (k:Nat) hs,obs[k]? =some .dead->ob[k]? =some hs->
 (hs≠[]->obs'[k]? =some .dead/\ob'[k]? =some hs)/\(hs=[]->obs'[k]? =some .dead->ob'[k]? =some [])
theorem cF.refl (ob:Hs) (obs:List AObj):cF ob obs ob obs:=fun _ _ h1 h2=>⟨fun _=>⟨h1,h2⟩,fun e _=>e▸h2⟩
theorem Ext.below {M M':Imm} {ob':Hs} {obs':List AObj} {w w':World} (h:Ext M [] [] w M' ob' obs' w'):Below w.heap.size w w':=
 ⟨h.os,h.tape,h.output,h.size,fun b hb=>h.keep b hb fun k ⟨c,hs,h1,_⟩=>by simp at h1⟩
theorem eI {w:World} {b:Nat} {x:Obj} (hx:w.heap[b]? =some x):b<w.heap.size:=(Ef.1 hx).1
theorem cV.mono {M M':Imm} {w w':World} {v:Value} {sz:Nat} {e:TypeId} {xs:List AVal} (h:cV M w v sz e xs) (hM:∀ b o x,M b o x->M' b o x)
  (hn:∀ b,v.ownBlock=some b->(∀ o,NoM M b o)->∀ o,NoM M' b o) (hb:∀ b c,v.ownBlock=some b->w.heap[b]? =some c->w'.heap[b]? =some c):cV M' w' v sz e xs:=by
 obtain ⟨cv,⟨h1,h2⟩,h3,h4,h5,h6,h7⟩:=h
 refine ⟨cv,⟨h1,?_⟩,h3,h4,fun q c hc=>?_,fun b e=>hn b e (h6 b e),fun b e cur T fz hc=>?_⟩
 .rcases h2 with h2 | ⟨g,cap,cur,e1,e2,e3,r⟩
  .exact .inl h2
  .exact .inr ⟨g,cap,cur,e1,e2,hb g _ (by rw [e1];rfl) e3,r⟩
 .obtain ⟨u,hu,hr⟩:=h5 q c hc
  exact ⟨u,hu,hr.monoM hM⟩
 .rcases h2 with ⟨rfl,_⟩ | ⟨g,cap,cur',e1,_,e3,_⟩
  .cases e
  .rw [e1] at e
   cases e
   have:=hb g _ (by rw [e1];rfl) e3
   rw [hc] at this
   cases this
   exact h7 g (by rw [e1];rfl) _ _ _ e3
theorem gD.mono {M M':Imm} {ob ob':Hs} {w w':World} {hs:List Value} {x:AObj} (h:gD M ob w hs x) (hM:∀ b o x,M b o x->M' b o x) (ho:dD ob ob')
  (hn:∀ b,x.owns=true->b∈blk hs->∀ o,NoM M b o->NoM M' b o) (hb:∀ b c,x.owns=true->b∈blk hs->w.heap[b]? =some c->w'.heap[b]? =some c):gD M' ob' w' hs x:=by
 have blkg:∀ {g:Nat} {v:Value},hs.length=g+1->hs[g]? =some v->blk hs=C5 v:=fun {g v} hl hv=>by
  unfold blk
  rw [Iy,hl,Iq,hv]
 have ownb:∀ {v:Value} {b:Nat},v.ownBlock=some b->b∈C5 v:=fun {v b} h=>by
  unfold Fh at h
  split at h
  .cases h;simp [C5]
  .cases h
 have ownm:∀ {v:Value} {b:Nat},blk hs=C5 v->v.ownBlock=some b->b∈blk hs:=fun {v b} h1 h2=>by rw [h1];exact ownb h2
 cases x with
 | dead=>trivial
 | cells T cs=>
  obtain ⟨b,rfl,h1,cv,h2,h3,h4,h5⟩:=h
  exact ⟨b,rfl,fun o=>hn b rfl (cZ.2 rfl) o (h1 o),cv,hb b _ rfl (cZ.2 rfl) h2,h3,h4,fun i v a hv ha=>(h5 i v a hv ha).mono hM ho⟩
 | fcells cs=>
  obtain ⟨b,rfl,h1⟩:=h
  exact ⟨b,rfl,fun j c hc=>hM _ _ _ (h1 j c hc)⟩
 | row g sz e xs=>
  obtain ⟨h1,v,h2,h3⟩:=h
  exact ⟨h1,v,h2,h3.mono hM (fun b e hno o=>hn b rfl (ownm (blkg h1 h2) e) o (hno o)) (fun b c e=>hb b c rfl (ownm (blkg h1 h2) e))⟩
 | frow g sz xs=>
  obtain ⟨v,h1,h2⟩:=h
  exact ⟨v,h1,h2.monoM hM⟩
 | tail g sz e=>
  obtain ⟨h1,v,h2,n,cv,⟨h3,h4⟩,h5⟩:=h
  refine ⟨h1,v,h2,n,cv,⟨h3,?_⟩,fun b e o ho=>hn b rfl (ownm (blkg h1 h2) e) o (h5 b e o ho)⟩
  rcases h4 with h4 | ⟨g',cap,cur,e1,e2,e3,r⟩
  .exact .inl h4
  .exact .inr ⟨g',cap,cur,e1,e2,hb g' _ rfl (ownm (blkg h1 h2) (by rw [e1];rfl)) e3,r⟩
 | mp ag es=>
  obtain ⟨b,rfl,h1,en,cl,h2,h3,h4,h5⟩:=h
  exact ⟨b,rfl,fun o=>hn b rfl (cZ.2 rfl) o (h1 o),en,cl,hb b _ rfl (cZ.2 rfl) h2,h3,fun i x y hx hy=>⟨(h4 i x y hx hy).1,(h4 i x y hx hy).2.1,(h4 i x y hx hy).2.2.monoM hM⟩,h5⟩
 | bun g I=>
  obtain ⟨h1,bs,h2,h3,h4⟩:=h
  have e:blk hs=bs:=by rw [<-C4 (hs:=[fM bs]) rfl];exact blkg h1 h2
  refine ⟨h1,bs,h2,fun b hb'=>?_,I.mono hM (fun b hb'=>hn b rfl (by rw [e];exact hb')) (fun b c hb'=>hb b c rfl (by rw [e];exact hb')) h4⟩
  obtain ⟨o,h5,h6⟩:=h3 b hb'
  exact ⟨o,hb b _ rfl (by rw [e];exact hb') h5,h6⟩
theorem Mem.same {M:Imm} {ob:Hs} {obs:List AObj} {w w':World} (h:Mem M ob obs w) (hs:w.heap.size<=w'.heap.size)
  (hb:∀ b,b<w.heap.size->w'.heap[b]? =w.heap[b]?):Mem M ob obs w':=by
 refine ⟨fun b o x hx=>?_,h.len,fun k c hc=>?_,fun k b hb'=>Dn (h.lt k b hb') hs,h.inj⟩
 .obtain ⟨v,hv,hr⟩:=h.imm b o x hx
  exact ⟨v,(Cg (w:=w) (a:=⟨b,o,none⟩) (hb b (Cj w _ hv))).trans hv,hr⟩
 .obtain ⟨hs',hob,hok⟩:=h.obj k c hc
  exact ⟨hs',hob,hok.mono (fun _ _ _ h=>h) (dD.refl _) (fun _ _ _ _ h=>h) (fun b c _ _ hc=>(hb b (eI hc)).trans hc)⟩
theorem Mem.noImm {M:Imm} {ob:Hs} {obs:List AObj} {w:World} (h:Mem M ob obs w) {b:Nat} (hb:w.heap.size<=b) (o:Nat):NoM M b o:=by
 intro x hx
 obtain ⟨v,hv,_⟩:=h.imm b o x hx
 have:=Cj w _ hv
 simp at this
 omega
inductive TK where
 | int (k:IntKind) | bool | str | strct (fs:List (Nat×Nat×Bool)) | arr (n esz:Nat) (eagg:Bool) | slc (e esz ebytes:Nat) | ptr (e:Nat) | iface | mp (k e:Nat) | other
structure TI where
 kind:TK
 size:Nat
 agg:Bool
 zero:AVal
abbrev Tab:=List (Nat×TI)
def cL:Tab->Nat->Option TI
 | [],_=>none
 | (i,x)::r,n=>bif Ar i n then some x else cL r n
abbrev UF:=List (Nat×String×Nat)
def Q9:UF->Nat->String->Option Nat
 | [],_,_=>none
 | (i,s,f)::r,n,m=>bif (Ar i n&&s==m) then some f else Q9 r n m
structure Env where
 P:Program
 T:Tab
 mt:UF
 fl:List (Nat×Nat)
 own:List Nat
 rws:List Nat
 bl:List Nat
 df:List (Nat×List AVal)
 rd:Option Nat:=none
def pA (n:Nat):List Nat->Bool
 | []=>false
 | x::r=>Ar x n||pA n r
def aX:List (Nat×AVal)->Nat->AVal
 | [],_=>.undef
 | (i,v)::r,n=>bif Ar i n then v else aX r n
def cN:List (Nat×AVal)->Nat->AVal->List (Nat×AVal)
 | [],n,x=>[(n,x)]
 | (i,v)::r,n,x=>bif Ar i n then (n,x)::r else (i,v)::cN r n x
def aE:List AObj->Nat->AObj
 | [],_=>.dead
 | x::_,0=>x
 | _::r,n+1=>aE r n
def bK:List AObj->Nat->AObj->List AObj
 | [],0,y=>[y]
 | [],n+1,y=>.dead::bK [] n y
 | _::r,0,y=>y::r
 | x::r,n+1,y=>x::bK r n y
def aO:List AObj->Nat
 | []=>0
 | _::r=>aO r+1
def iN:Nat->List AVal->List AVal
 | 0,l=>l
 | _+1,[]=>[]
 | n+1,_::l=>iN n l
def jN:Nat->List AVal->Option (List AVal)
 | 0,_=>some []
 | _+1,[]=>none
 | n+1,c::l=>match jN n l with | some r=>some (c::r) | none=>none
def II:List AVal->List AVal->Option (List AVal)
 | [],l=>some l
 | _::_,[]=>none
 | c::r,_::l=>match II r l with | some x=>some (c::x) | none=>none
def kM:Nat->List AVal->List AVal->Option (List AVal)
 | 0,new,l=>II new l
 | _+1,_,[]=>none
 | n+1,new,c::l=>match kM n new l with | some x=>some (c::x) | none=>none
def FU:List AVal->Nat
 | []=>0
 | _::r=>FU r+1
def nth {α:Type}:List α->Nat->Option α
 | [],_=>none
 | x::_,0=>some x
 | _::r,n+1=>nth r n
def NQ:List AVal->List AVal->List AVal
 | [],l=>l
 | c::r,l=>c::NQ r l
def dC (f:AVal->AVal):List AVal->List AVal
 | []=>[]
 | c::r=>f c::dC f r
def ZE:IntKind->Nat
 | .i8=>127 | .i16=>32767 | .i32=>2147483647 | .i64=>9223372036854775807
 | .u8=>255 | .u16=>65535 | .u32=>4294967295 | .u64=>18446744073709551615
def RM:IntKind->Nat
 | .i8=>128 | .i16=>32768 | .i32=>2147483648 | .i64=>9223372036854775808 | _=>0
def W0 (k:IntKind):Int->Bool
 | .ofNat m=>Ea m (ZE k)
 | .negSucc m=>Du m (RM k)
def RF:List UInt8->Nat
 | []=>0
 | _::r=>RF r+1
def YK:Value->AVal
 | .bool b=>.bool b
 | .int k n=>bif W0 k n then .int k n else .undef
 | .string s=>bif Ea (RF s.data.toList) 1000000 then .str s.data.toList else .undef
 | .slice none 0 0=>.nilslice
 | .pointer none=>.nilptr
 | .map none=>.nilmap
 | .nilFunc=>.nilfunc
 | .nilIface=>.nilif
 | _=>.undef
def ev (fr:List (Nat×AVal)):Operand->AVal
 | .tmp t=>aX fr t
 | .const v=>YK v
 | .func f=>.func (.func f) [] []
 | .global _=>.undef
def one:AVal->Bool
 | .undef | .agg _ | .tup _=>false
 | _=>true
def lS:List AVal->Bool
 | []=>true
 | c::r=>one c&&lS r
def xD:AVal->Bool
 | .undef=>false
 | _=>true
def pureV (og:Nat->AObj):Nat->AVal->AVal
 | 0,_=>.undef
 | n+1,v=>match v with
  | .slice sz xs _=>.slice sz xs .no
  | .agg cs=>.agg (dC (pureV og n) cs)
  | .tup cs=>.tup (dC (pureV og n) cs)
  | .func fn fs cs=>.func fn (dC (pureV og n) fs) (dC (pureV og n) cs)
  | .iface t v=>.iface t (pureV og n v)
  | .ref k off=>(match og k with | .fcells cs=>.ptr (iN off cs) | _=>.undef)
  | .csl k off len sz=>(match og k with | .fcells cs=>bif Ar sz 1 then (match jN len (iN off cs) with | some l=>bif lS l then .slice 1 l .full else .undef | none=>.undef) else .undef | _=>.undef)
  | .row k g=>(match og k with | .frow g' sz xs=>bif Ar g g' then .slice sz xs .no else .undef | _=>.undef)
  | .sub k g lo len sz=>(match og k with | .frow g' sz' xs=>bif Ar g g'&&Ar sz sz' then .slice sz ((xs.drop lo).take len) .no else .undef | _=>.undef)
  | .eref _ _ _ _ _=>.undef
  | .rowc _ _ _=>.undef
  | .pre _ _ _ _ _=>.undef
  | .mref _=>.undef
  | v=>v
def foldO (f:List AObj->AVal->List AObj):List AObj->List AVal->List AObj
 | obs,[]=>obs
 | obs,c::r=>foldO f (f obs c) r
def frz1 (obs:List AObj) (k:Nat):List AObj:=match aE obs k with
 | .cells _ cs=>bK obs k (.fcells (dC (pureV (aE obs) 4) cs))
 | _=>obs
def frzR (obs:List AObj) (k g:Nat):List AObj:=match aE obs k with
 | .row g' sz _ xs=>bif Ar g g' then bK obs k (.frow g sz xs) else obs
 | _=>obs
def frzV:Nat->List AObj->AVal->List AObj
 | 0,obs,_=>obs
 | n+1,obs,v=>match v with
  | .agg cs=>foldO (frzV n) obs cs
  | .tup cs=>foldO (frzV n) obs cs
  | .func _ fs cs=>foldO (frzV n) (foldO (frzV n) obs fs) cs
  | .iface _ v=>frzV n obs v
  | .ref k _=>(match aE obs k with | .cells _ cs=>frz1 (foldO (frzV n) obs cs) k | _=>obs)
  | .csl k _ _ _=>(match aE obs k with | .cells _ cs=>frz1 (foldO (frzV n) obs cs) k | _=>obs)
  | .row k g=>frzR obs k g
  | .sub k g _ _ _=>frzR obs k g
  | _=>obs
def frzL (obs:List AObj) (l:List AVal):List AObj:=foldO (frzV 6) obs l
def frzs:List Nat->List AObj->List AObj
 | [],obs=>obs
 | k::r,obs=>frzs r (match aE obs k with
  | .row g _ _ _=>frzR obs k g
  | .cells _ _=>frzV 6 obs (.ref k 0)
  | _=>obs)
inductive OR where
 | no
 | val (v:AVal)
 | mkf (fn:Fn) (fs cs:List AVal)
 | need (p:Prop) (r:OR)
 | alt (p:Prop) (v w:AVal)
 | idx (n:Int) (k:Nat->OR)
 | elem (xs:List AVal) (i:Nat) (k:AVal->OR)
 | byte (l:List UInt8) (i:Nat)
 | text (xs:List AVal)
 | find (es:List (List Int×AVal)) (key:List Int) (k:Option AVal->OR)
 | born (x:AObj) (v:AVal)
 | upd (k:Nat) (x:AObj) (v:AVal)
 | nilq (xs:List AVal) (neg:Bool)
 | call (f:Fn) (args:List AVal)
 | pan (v:AVal)
def OR.bind:OR->(AVal->OR)->OR
 | .val v,k=>k v
 | .need p r,k=>.need p (r.bind k)
 | .elem xs i f,k=>.elem xs i fun x=>(f x).bind k
 | .idx n f,k=>.idx n fun i=>(f i).bind k
 | _,_=>.no
def iC:BinOp->IntKind->Int->Int->Int
 | op,k,x,y=>
  let a:=BitVec.ofInt k.bits x
  let b:=BitVec.ofInt k.bits y
  match op with
  | .and=>k.wrap (a &&& b).toNat
  | .or=>k.wrap (a ||| b).toNat
  | .xor=>k.wrap (a ^^^ b).toNat
  | _=>k.wrap (a &&& ~~~b).toNat
def yM (k:IntKind) (n:Int):OR:=.alt (inR k n) (.int k n) (.int k (k.wrap n))
def RO:IntKind->IntKind->Bool
 | .i8,.i8 | .i16,.i16 | .i32,.i32 | .i64,.i64 | .u8,.u8 | .u16,.u16 | .u32,.u32 | .u64,.u64=>true
 | _,_=>false
def aCb (op:BinOp) (k:IntKind) (x y:Int):OR:=
 match op with
 | .add=>yM k (x+y)
 | .sub=>yM k (x-y)
 | .mul=>yM k (x*y)
 | .quo=>.need (y≠0) (.alt (inR k (x.tdiv y)) (.int k (x.tdiv y)) (.int k (k.wrap (x.tdiv y))))
 | .rem=>.need (y≠0) (.val (.int k (x.tmod y)))
 | .and=>.val (.int k (iC .and k x y))
 | .or=>.val (.int k (iC .or k x y))
 | .xor=>.val (.int k (iC .xor k x y))
 | .andNot=>.val (.int k (iC .andNot k x y))
 | .eql=>.val (.bool (x==y))
 | .neq=>.val (.bool (x !=y))
 | .lss=>.val (.bool (decide (x<y)))
 | .leq=>.val (.bool (decide (x<=y)))
 | .gtr=>.val (.bool (decide (y<x)))
 | .geq=>.val (.bool (decide (y<=x)))
 | _=>.no
def ceq:List AVal->List AVal->Option Bool
 | [],[]=>some true
 | .int k a::r,.int k' b::s=>bif RO k k' then (match ceq r s with | some c=>some ((a==b)&&c) | none=>none) else none
 | _,_=>none
def uQ:List (Nat×Nat)->Nat->Nat
 | [],_=>0
 | (i,n)::r,t=>bif Ar i t then n else uQ r t
def sM (op:BinOp) (c:Bool):OR:=
 match op with
 | .eql=>.val (.bool c)
 | .neq=>.val (.bool (!c))
 | _=>.no
def aAu (op:BinOp) (xs:List AVal):OR:=
 match op with
 | .eql=>.nilq xs false
 | .neq=>.nilq xs true
 | _=>.no
def isC:Operand->Bool
 | .const _=>true
 | _=>false
def aA9 (E:Env) (og:Nat->AObj) (lit:Bool) (op:BinOp) (t:Nat) (a b:AVal):OR:=
 match a,b with
 | .int k x,.int k' y=>
  (match op with
  | .shl=>.need (0<=y) (.alt (y.toNat<=k.bits/\inR k (x*2 ^ y.toNat)) (.int k (x*2 ^ y.toNat)) (.int k (k.wrap (x*2 ^ (min y.toNat k.bits)))))
  | .shr=>.need (0<=y/\y.toNat<=k.bits) (.val (.int k (x.fdiv (2 ^ y.toNat))))
  | op=>bif RO k k' then aCb op k x y else .no)
 | .str x,.str y=>
  (match op with
  | .add=>.need (((x.length+y.length:Nat):Int)<=9223372036854775807) (.val (.str (x++y)))
  | .eql=>.val (.bool (x==y))
  | .neq=>.val (.bool (!(x==y)))
  | .lss=>.val (.bool (Op.bytesLess x y))
  | .leq=>.val (.bool (Op.bytesLess x y||x==y))
  | .gtr=>.val (.bool (!(Op.bytesLess x y||x==y)))
  | .geq=>.val (.bool (!Op.bytesLess x y))
  | _=>.no)
 | .agg xs,.agg ys=>
  bif Du 0 (uQ E.fl t)&&Ar (FU xs) (uQ E.fl t) then
   (match op,ceq xs ys with
   | .eql,some c=>.val (.bool c)
   | .neq,some c=>.val (.bool (!c))
   | _,_=>.no)
  else .no
 | a,b=>match cL E.T t with
  | none=>.no
  | some ti=>match ti.kind,a,b with
   | .bool,.bool x,.bool y=>sM op (x==y)
   | .slc _ _ _,.slice _ _ .nil,.nilslice=>sM op true
   | .slc _ _ _,.nilslice,.nilslice=>sM op true
   | .slc _ _ _,.slice _ xs _,.nilslice=>aAu op xs
   | .ptr _,.nilptr,.nilptr=>sM op true
   | .ptr _,.ref _ _,.nilptr=>sM op false
   | .ptr _,.ptr _,.nilptr=>sM op false
   | .ptr e,.ref k o,.ref k' o'=>(match cL E.T e with
    | some _=>bif Ar k k'&&Ar o o' then sM op true else .no
    | none=>.no)
   | .iface,.nilif,.nilif=>bif lit then sM op true else .no
   | .iface,.iface _ _,.nilif=>sM op false
   | _,_,_=>.no
def mk (ti:TI) (l:List AVal):Option AVal:=
 bif ti.agg then some (.agg l) else match l with
  | [c]=>some c
  | _=>none
def fin (ti:TI) (l:Option (List AVal)):OR:=
 match l with
 | none=>.no
 | some l=>match mk ti l with
  | none=>.no
  | some v=>.val v
def S8 (E:Env) (og:Nat->AObj) (t:Nat) (a:AVal):OR:=
 match cL E.T t with
 | none=>.no
 | some ti=>match a with
  | .ptr cs=>fin ti (jN ti.size cs)
  | .ref k off=>(match og k with
   | .cells _ cs=>fin ti (jN ti.size (iN off cs))
   | .fcells cs=>fin ti (jN ti.size (iN off cs))
   | _=>.no)
  | .eref k g i sz off=>(match og k with
   | .row g' sz' _ xs=>bif Ar g g'&&Ar sz sz' then .elem xs i fun x=>fin ti (jN ti.size (iN off x.cells)) else .no
   | _=>.no)
  | _=>.no
def ZC:List AVal->AVal
 | [c]=>c
 | _=>.undef
def aAh (x:AVal) (cs:List AVal):AVal:=
 match x with
 | .agg _=>.agg cs
 | _=>ZC cs
def H2 (E:Env) (og:Nat->AObj) (t:Nat) (a v:AVal):OR:=
 match cL E.T t with
 | none=>.no
 | some ti=>
  bif lS v.cells&&Ar (FU v.cells) ti.size then
   match a with
   | .ref k off=>(match og k with
    | .cells T cs=>(match kM off v.cells cs with
     | some cs=>.upd k (.cells T cs) .undef
     | none=>.no)
    | _=>.no)
   | .eref k g i sz off=>(match og k with
    | .row g' sz' e xs=>
     bif ((Ar g g'&&Ar sz sz')&&Ea 1 sz)&&lS (pureV og 4 v).cells then
            (bif Ar off 0&&Ar ti.size sz then .need (i<xs.length) (.upd k (.row g sz e (xs.set i (pureV og 4 v))) .undef)
            else .elem xs i fun x=>match kM off (pureV og 4 v).cells x.cells with
             | some cs=>.upd k (.row g sz e (xs.set i (aAh x cs))) .undef
             | none=>.no)
     else .no
    | _=>.no)
   | _=>.no
  else .no
def IC (E:Env) (s:Nat) (a:AVal) (f:Nat):OR:=
 match cL E.T s with
 | some {kind:=.strct fs,..}=>(match nth fs f with
  | none=>.no
  | some (off,sz,ag)=>match a with
   | .agg cs=>(match jN sz (iN off cs) with
    | none=>.no
    | some l=>bif ag then .val (.agg l) else match l with
     | [c]=>.val c
     | _=>.no)
   | _=>.no)
 | _=>.no
def pZ (E:Env) (s:Nat) (a:AVal) (f:Nat):OR:=
 match cL E.T s with
 | some {kind:=.strct fs,..}=>(match nth fs f with
  | none=>.no
  | some (off,sz,_)=>
   bif Ar sz 0 then .no else
   match a with
   | .ptr cs=>.val (.ptr (iN off cs))
   | .ref k x=>.val (.ref k (x+off))
   | .eref k g i z x=>.val (.eref k g i z (x+off))
   | _=>.no)
 | _=>.no
def pY (E:Env) (og:Nat->AObj) (t:Nat) (a i:AVal):OR:=
 match cL E.T t,i with
 | some ti,.int _ n=>(match ti.kind with
  | .slc _ esz _=>(match a with
   | .slice sz xs _=>bif Ar sz esz then .idx n fun i=>.elem xs i fun x=>.val (.ptr x.cells) else .no
   | .row k g=>(match og k with
    | .row g' sz _ xs=>bif Ar g g'&&Ar sz esz then .idx n fun i=>.need (i<xs.length) (.val (.eref k g i sz 0)) else .no
    | .frow g' sz xs=>bif Ar g g'&&Ar sz esz then .idx n fun i=>.elem xs i fun x=>.val (.ptr x.cells) else .no
    | _=>.no)
   | .sub k g lo len sz=>(match og k with
    | .row g' sz' _ _=>bif (Ar g g'&&Ar sz sz')&&Ar sz esz then .idx n fun i=>.need (i<len) (.val (.eref k g (lo+i) sz 0)) else .no
    | _=>.no)
   | _=>.no)
  | .arr len esz _=>(match a with
   | .ref k off=>.need (0<=n/\n.toNat<len) (.val (.ref k (off+n.toNat*esz)))
   | .ptr cs=>.need (0<=n/\n.toNat<len) (.val (.ptr (iN (n.toNat*esz) cs)))
   | _=>.no)
  | _=>.no)
 | _,_=>.no
def IB (E:Env) (t:Nat) (a i:AVal):OR:=
 match a,i with
 | .str l,.int _ n=>(match cL E.T t with
  | some {kind:=.str,..}=>.idx n fun i=>.byte l i
  | _=>.no)
 | .agg cs,.int _ n=>(match cL E.T t with
  | some {kind:=.arr len esz ag,..}=>(match jN esz (iN (n.toNat*esz) cs) with
   | some l=>bif ag then .need (0<=n/\n<len) (.val (.agg l)) else (match l with | [c]=>.need (0<=n/\n<len) (.val c) | _=>.no)
   | none=>.no)
  | _=>.no)
 | _,_=>.no
def yI (place:Nat->Option (Nat×Nat)):List AVal->List (Nat×AVal)->Option (List AVal)
 | cs,[]=>some cs
 | cs,(i,v)::r=>match place i with
  | none=>none
  | some (off,sz)=>bif xD v&&Ar (FU v.cells) sz then (match kM off v.cells cs with | some cs=>yI place cs r | none=>none) else none
def IE (E:Env) (t:Nat) (parts:List (Nat×AVal)):OR:=
 match cL E.T t with
 | some ti=>(match ti.kind,ti.zero with
  | .strct fs,.agg z=>(match yI (fun i=>(nth fs i).map fun f=>(f.1,f.2.1)) z parts with
   | some cs=>.val (.agg cs)
   | none=>.no)
  | .arr _ esz _,.agg z=>(match yI (fun i=>some (i*esz,esz)) z parts with
   | some cs=>.val (.agg cs)
   | none=>.no)
  | _,_=>.no)
 | _=>.no
def mG (hint base sz:Nat) (e:TypeId) (xs:List AVal):OR:=
 match hint with
 | 2=>.born (.row 0 sz e xs) (.row base 0)
 | _=>.born (.tail 0 sz e) (.slice sz xs (.own base 0))
def yJ (og:Nat->AObj) (esz:Nat):Nat->List (Nat×AVal)->Option (List AVal)
 | _,[]=>some []
 | n,(i,v)::r=>(fun v=>bif Ar i n&&Ar (FU v.cells) esz&&lS v.cells then (match yJ og esz (n+1) r with | some l=>some (v::l) | none=>none) else none) (pureV og 4 v)
def QG:List (Nat×AVal)->Nat
 | []=>0
 | _::r=>QG r+1
def kD (E:Env) (hint base:Nat) (og:Nat->AObj) (t len:Nat) (parts:List (Nat×AVal)):OR:=
 match cL E.T t with
 | some {kind:=.slc e esz _,..}=>
  bif Ar (QG parts) len&&Ea (len*esz) 1000&&Ea 1 esz then
   match yJ og esz 0 parts with
   | some xs=>(match hint with | 0=>.val (.slice esz xs .full) | h=>mG h base esz e xs)
   | none=>.no
  else .no
 | _=>.no
def evL (ρ:Operand->AVal):List (Nat×Operand)->List (Nat×AVal)
 | []=>[]
 | (i,x)::r=>(i,ρ x)::evL ρ r
def evO (ρ:Operand->AVal):List Operand->List AVal
 | []=>[]
 | x::r=>ρ x::evO ρ r
def bnd:Option AVal->(Option Nat->OR)->OR
 | none,k=>k none
 | some (.int _ n),k=>.idx n fun i=>k (some i)
 | some _,_=>.no
def H3 (E:Env) (og:Nat->AObj) (t:Nat) (a:AVal) (lo hi mx:Option AVal):OR:=
 match cL E.T t with
 | none=>.no
 | some ti=>match a with
  | .str l=>(match ti.kind,mx with
   | .str,none=>bnd lo fun lo=>bnd hi fun hi=>match lo,hi with
    | none,none=>.val (.str l)
    | some x,none=>.need (x<=l.length) (.val (.str (l.drop x)))
    | none,some y=>.need (y<=l.length) (.val (.str (l.take y)))
    | some x,some y=>.need (x<=y/\y<=l.length) (.val (.str ((l.take y).drop x)))
   | _,_=>.no)
  | .slice sz xs _=>(match ti.kind with
   | .slc _ esz _=>bif Ar sz esz then
     (bnd lo fun lo=>bnd hi fun hi=>bnd mx fun mx=>match mx with
     | none=>(match lo,hi with
            | none,none=>.val (.slice sz xs .no)
            | some x,none=>.need (x<=xs.length) (.val (.slice sz (xs.drop x) .no))
            | none,some y=>.need (y<=xs.length) (.val (.slice sz (xs.take y) .no))
            | some x,some y=>.need (x<=y/\y<=xs.length) (.val (.slice sz ((xs.take y).drop x) .no)))
     | some m=>(match lo,hi with
            | none,some y=>.need (y<=xs.length/\m=y) (.val (.slice sz (xs.take y) .full))
            | _,_=>.no))
    else .no
   | _=>.no)
  | .row k g=>(match ti.kind,mx,og k with
   | .slc _ esz _,none,.row g' sz _ xs=>bif Ar g g'&&Ar sz esz then
     (bnd lo fun lo=>bnd hi fun hi=>match lo,hi with
     | none,none=>.val (.row k g)
     | some x,none=>.need (x<=xs.length) (.val (.sub k g x (xs.length-x) sz))
     | none,some y=>.need (y<=xs.length) (.val (.sub k g 0 y sz))
     | some x,some y=>.need (x<=y/\y<=xs.length) (.val (.sub k g x (y-x) sz)))
    else .no
   | _,_,_=>.no)
  | .sub k g l0 len sz=>(match ti.kind,mx,og k with
   | .slc _ esz _,none,.row g' sz' _ xs=>bif (Ar g g'&&Ar sz sz')&&Ar sz esz then
     (bnd lo fun lo=>bnd hi fun hi=>match lo,hi with
     | none,none=>.val (.sub k g l0 len sz)
     | some x,none=>.need (x<=len) (.val (.sub k g (l0+x) (len-x) sz))
     | none,some y=>.need (l0+y<=xs.length) (.val (.sub k g l0 y sz))
     | some x,some y=>.need (x<=y/\l0+y<=xs.length) (.val (.sub k g (l0+x) (y-x) sz)))
    else .no
   | _,_,_=>.no)
  | .ref k off=>(match ti.kind,lo,hi,mx with
   | .arr len esz _,none,none,none=>.need ((len:Int)<=9223372036854775807) (.val (.csl k off len esz))
   | _,_,_,_=>.no)
  | .ptr cs=>(match ti.kind,lo,hi,mx with
   | .arr len 1 false,none,none,none=>(match jN len cs with
    | some l=>bif lS l then .need ((len:Int)<=9223372036854775807) (.val (.slice 1 l .full)) else .no
    | none=>.no)
   | _,_,_,_=>.no)
  | _=>.no
def ub (c:UInt8):AVal:=.int .u8 c.toNat
def U3 (og:Nat->AObj):AVal->Option (Nat×List AVal)
 | .slice sz xs _=>some (sz,xs)
 | .row k g=>(match og k with
  | .row g' sz _ xs=>bif Ar g g' then some (sz,xs) else none
  | .frow g' sz xs=>bif Ar g g' then some (sz,xs) else none
  | _=>none)
 | .sub k g lo len sz=>(match og k with
  | .row g' sz' _ xs=>bif Ar g g'&&Ar sz sz' then some (sz,(xs.drop lo).take len) else none
  | _=>none)
 | _=>none
def OL (E:Env) (og:Nat->AObj) (esz t2:Nat) (x:AVal):Option (List AVal):=
 match x with
 | .str l=>(match cL E.T t2 with | some {kind:=.str,..}=>bif Ar esz 1 then some (l.map ub) else none | _=>none)
 | .nilslice=>(match cL E.T t2 with | some {kind:=.slc _ _ _,..}=>some [] | _=>none)
 | x=>match cL E.T t2,U3 og x with
  | some {kind:=.slc _ _ _,..},some (sz,xs)=>bif Ar sz esz then some xs else none
  | _,_=>none
def TD (E:Env) (og:Nat->AObj) (s d:Nat) (a:AVal):OR:=
 match cL E.T s,cL E.T d with
 | some ts,some td=>(match td.kind,a with
  | .int k,.int _ n=>.alt (inR k n) (.int k n) (.int k (k.wrap n))
  | .str,.str l=>(match ts.kind with | .str=>.val (.str l) | _=>.no)
  | .slc e 1 _,.str l=>(match ts.kind,cL E.T e with
   | .str,some {kind:=.int .u8,..}=>.val (.slice 1 (l.map ub) .no)
   | _,_=>.no)
  | .str,a=>(match ts.kind,U3 og a with
   | .slc e 1 _,some (1,xs)=>(match cL E.T e with
    | some {kind:=.int .u8,..}=>.text xs
    | _=>.no)
   | _,_=>.no)
  | _,_=>.no)
 | _,_=>.no
def aA4 (E:Env) (og:Nat->AObj) (t:Nat) (a:AVal):OR:=
 match cL E.T t with
 | none=>.no
 | some ti=>match ti.kind,a with
  | .str,.str l=>.val (.int .i64 l.length)
  | .slc _ _ _,.slice _ xs _=>.val (.int .i64 xs.length)
  | .slc _ _ _,.nilslice=>.val (.int .i64 0)
  | .slc _ _ _,.csl _ _ len _=>.val (.int .i64 len)
  | .slc _ _ _,.hsl _ n _=>.need ((n:Int)<=9223372036854775807) (.val (.int .i64 n))
  | .slc _ _ _,.row k g=>(match og k with
   | .row g' _ _ xs=>bif Ar g g' then .val (.int .i64 xs.length) else .no
   | .frow g' _ xs=>bif Ar g g' then .val (.int .i64 xs.length) else .no
   | _=>.no)
  | .slc _ _ _,.sub _ _ _ len _=>.val (.int .i64 len)
  | .arr n _ _,_=>.need ((n:Int)<=9223372036854775807) (.val (.int .i64 n))
  | _,_=>.no
def HZ (n eb:Nat):Prop:=n<=maxLen/\n*eb<=140737488355328
def oV (E:Env) (hint base:Nat) (og:Nat->AObj) (t t2:Nat) (s x:AVal):OR:=
 match cL E.T t with
 | some {kind:=.slc e esz eb,..}=>
  bif Ea 1 esz then
   match OL E og esz t2 x with
   | none=>.no
   | some ys=>(match s with
    | .slice sz xs tk=>(match tk with
     | .own k g=>(match og k with
      | .tail g' sz' e'=>bif ((Ar g g'&&Ar sz sz')&&Ar sz esz)&&Ar e e' then .need (HZ (xs.length+ys.length) eb) (.upd k (.tail (g+1) esz e) (.slice esz (xs++ys) (.own k (g+1)))) else .no
      | _=>.no)
     | .nil=>bif Ar sz esz then .need (HZ ys.length eb) (mG hint base esz e ys) else .no
     | .full=>bif Ar sz esz then .need (HZ (xs.length+ys.length) eb) (match hint with | 0=>.val (.slice esz (xs++ys) .no) | h=>.need (ys≠[]) (mG h base esz e (xs++ys))) else .no
     | .no=>.no)
    | .nilslice=>.need (HZ ys.length eb) (mG hint base esz e ys)
    | .row k g=>(match og k with
     | .row g' sz e' xs=>bif (Ar g g'&&Ar sz esz)&&Ar e e' then .need (HZ (xs.length+ys.length) eb) (.upd k (.row (g+1) sz e (xs++ys)) (.row k (g+1))) else .no
     | _=>.no)
    | .sub k g lo len sz=>(match og k with
     | .row g' sz' e' xs=>bif ((Ar g g'&&Ar sz sz')&&Ar sz esz)&&Ar e e' then
       .need (lo+len+ys.length<=xs.length) (.upd k (.row g sz e (xs.take (lo+len)++ys++xs.drop (lo+len+ys.length))) (.sub k g lo (len+ys.length) sz)) else .no
     | _=>.no)
    | _=>.no)
  else .no
 | _=>.no
def TC (E:Env) (og:Nat->AObj) (t t2:Nat) (d x:AVal):OR:=
 match cL E.T t with
 | some {kind:=.slc e esz _,..}=>
  bif Ea 1 esz then
   match OL E og esz t2 x with
   | none=>.no
   | some ys=>(match d with
    | .row k g=>(match og k with
     | .row g' sz e' xs=>bif Ar g g'&&Ar sz esz then .upd k (.row g sz e' (ys.take xs.length++xs.drop ys.length)) (.int .i64 (min ys.length xs.length:Nat)) else .no
     | _=>.no)
    | .sub k g lo len sz=>(match og k with
     | .row g' sz' e' xs=>bif (Ar g g'&&Ar sz sz')&&Ar sz esz then
       .upd k (.row g sz e' (xs.take lo++ys.take len++xs.drop (lo+min ys.length len))) (.int .i64 (min ys.length len:Nat)) else .no
     | _=>.no)
    | _=>.no)
  else .no
 | _=>.no
def ID (E:Env) (og:Nat->AObj) (t:Nat) (d:AVal):OR:=
 match cL E.T t with
 | some {kind:=.slc e esz _,..}=>(match cL E.T e with
  | some te=>bif Ea 1 esz&&xD (pureV (fun _=>.dead) 4 te.zero) then (match d with
   | .sub k g lo len sz=>(match og k with
    | .row g' sz' e' xs=>bif (Ar g g'&&Ar sz sz')&&Ar sz esz then
            .upd k (.row g sz e' (xs.take lo++Ai len (pureV (fun _=>.dead) 4 te.zero)++xs.drop (lo+len))) (.tup []) else .no
    | _=>.no)
   | _=>.no) else .no
  | none=>.no)
 | _=>.no
def K0 (E:Env) (hint base:Nat) (t:Nat) (n c:AVal):OR:=
 match cL E.T t,n,c with
 | some {kind:=.slc e esz eb,..},.int _ a,.int _ b=>(match cL E.T e with
  | some te=>bif Ea 1 esz&&xD (pureV (fun _=>.dead) 4 te.zero) then
    .idx a fun i=>.need (a=b/\(eb:Int)*b<=281474976710656/\i<=maxLen) (.born (.row 0 esz e (Ai i (pureV (fun _=>.dead) 4 te.zero))) (.row base 0))
   else .no
  | none=>.no)
 | _,_,_=>.no
def E2:List AVal->Option (List Int)
 | []=>some []
 | .int .i64 n::r=>(match E2 r with | some l=>some (n::l) | none=>none)
 | _=>none
def AQ (E:Env) (k:Nat) (ag:Bool) (v:AVal):Option (List Int):=
 match ag with
 | false=>(match cL E.T k with
  | some {kind:=.int .i64,..}=>(match v with | .int .i64 n=>some [n] | _=>none)
  | _=>none)
 | true=>(match cL E.T k with
  | some _=>(match v with
   | .agg cs=>(match E2 cs with
    | some l=>bif Du 0 (uQ E.fl k)&&Ar (FU cs) (uQ E.fl k) then some l else none
    | none=>none)
   | _=>none)
  | none=>none)
def bL:List (List Int×AVal)->List Int->Option AVal
 | [],_=>none
 | (k,v)::r,x=>if k=x then some v else bL r x
def jG:List (List Int×AVal)->List Int->AVal->List (List Int×AVal)
 | [],x,y=>[(x,y)]
 | (k,v)::r,x,y=>if k=x then (x,y)::r else (k,v)::jG r x y
def zO:List (List Int×AVal)->List Int->List (List Int×AVal)
 | [],_=>[]
 | (k,v)::r,x=>if k=x then r else (k,v)::zO r x
def vC (ag:Bool) (es:List (List Int×AVal)) (key:List Int) (r:OR):OR:=
 match ag with
 | false=>r
 | true=>.need (∀ p∈es,p.1.length=key.length) r
def CQ (E:Env) (og:Nat->AObj) (t:Nat) (m k:AVal) (ok:Bool):OR:=
 match cL E.T t,m with
 | some {kind:=.mp kt e,..},.mref j=>(match cL E.T e,og j with
  | some te,.mp ag es=>(match AQ E kt ag k with
   | some key=>vC ag es key (.find es key fun o=>match o with
    | some v=>.val (bif ok then .tup [v,.bool true] else v)
    | none=>.val (bif ok then .tup [te.zero,.bool false] else te.zero))
   | none=>.no)
  | _,_=>.no)
 | _,_=>.no
def IA (E:Env) (og:Nat->AObj) (t:Nat) (m k v:AVal):OR:=
 match cL E.T t,m with
 | some {kind:=.mp kt _,..},.mref j=>(match og j with
  | .mp ag es=>(match AQ E kt ag k with
   | some key=>(fun v=>bif xD v then vC ag es key (.upd j (.mp ag (jG es key v)) .undef) else .no) (pureV og 4 v)
   | none=>.no)
  | _=>.no)
 | _,_=>.no
def CP (E:Env) (og:Nat->AObj) (t:Nat) (m k:AVal):OR:=
 match cL E.T t,m with
 | some {kind:=.mp kt _,..},.mref j=>(match og j with
  | .mp ag es=>(match AQ E kt ag k with
   | some key=>vC ag es key (.upd j (.mp ag (zO es key)) (.tup []))
   | none=>.no)
  | _=>.no)
 | _,_=>.no
def vW (E:Env) (ty:Nat):AVal->AVal
 | .nilslice=>(match cL E.T ty with | some {kind:=.slc _ esz _,..}=>.slice esz [] .nil | _=>.nilslice)
 | v=>v
def jM (E:Env) (hint base:Nat) (og:Nat->AObj) (ρ:Operand->AVal) (op:Op) (ty:TypeId):OR:=
 match op with
 | .move x=>.val (ρ x)
 | .assign x=>(match hint with
  | 0=>.val (vW E ty (ρ x))
  | h=>match vW E ty (ρ x) with
   | .slice esz xs t=>(match t with
    | .nil=>(match xs with
          | []=>(match cL E.T ty with | some {kind:=.slc e esz' _,..}=>bif Ar esz esz'&&Ea 1 esz then mG h base esz e [] else .no | _=>.no)
          | _::_=>.no)
    | t=>.val (.slice esz xs t))
   | v=>.val v)
 | .pick c a b=>(match ρ c with
  | .bool true=>.val (ρ a)
  | .bool false=>.val (ρ b)
  | _=>.no)
 | .alloc t=>(match cL E.T t with
  | some ti=>bif lS ti.zero.cells then .born (.cells t ti.zero.cells) (.ref base 0) else .no
  | none=>.no)
 | .box t x=>(fun v=>bif lS v.cells then .born (.cells t v.cells) (.ref base 0) else .no) (ρ x)
 | .build t ps=>IE E t (evL ρ ps.toList)
 | .buildSlice t n ps=>kD E hint base og t n (evL ρ ps.toList)
 | .load t a=>(S8 E og t (ρ a)).bind fun v=>.val (vW E t v)
 | .store t a x=>H2 E og t (ρ a) (vW E t (ρ x))
 | .nilCheck x=>(match ρ x with
  | .ref k off=>.val (.ref k off)
  | .eref k g i sz off=>.val (.eref k g i sz off)
  | .ptr cs=>.val (.ptr cs)
  | .func (.func f) fs cs=>.val (.func (.func f) fs cs)
  | .func (.yield f) fs cs=>.val (.func (.yield f) fs cs)
  | .iface t v=>.val (.iface t v)
  | _=>.no)
 | .binOp op t x y _=>aA9 E og (isC x||isC y) op t (ρ x) (ρ y)
 | .unOp op _ x=>(match op,ρ x with
  | .not,.bool b=>.val (.bool (!b))
  | .neg,.int k n=>yM k (0-n)
  | .xor,.int k n=>.val (.int k (iC .xor k (if k.signed then -1 else k.max) n))
  | _,_=>.no)
 | .convert s d x=>TD E og s d (ρ x)
 | .makeSlice t n c=>K0 E hint base t (ρ n) (ρ c)
 | .makeInterface t x=>(match cL E.T t with
  | some ti=>(match ti.kind with | .iface=>.no | _=>.val (.iface t (ρ x)))
  | none=>.no)
 | .makeFunc fn fs cs=>.mkf fn (evO ρ fs.toList) (evO ρ cs.toList)
 | .slice t x lo hi mx=>H3 E og t (ρ x) (lo.map ρ) (hi.map ρ) (mx.map ρ)
 | .fieldAddr t x f=>pZ E t (ρ x) f
 | .field t x f=>(IC E t (ρ x) f).bind fun v=>.val (vW E ty v)
 | .indexAddr t x i=>pY E og t (ρ x) (ρ i)
 | .index t x i=>IB E t (ρ x) (ρ i)
 | .extract x i=>(match ρ x with
  | .tup vs=>(match nth vs i with | some v=>.val v | none=>.no)
  | _=>.no)
 | .panic x=>(match ρ x with
  | .iface t v=>(fun v=>bif xD v then .pan (.iface t v) else .no) (pureV og 3 v)
  | _=>.no)
 | .typeAssert x _ t ok=>(match cL E.T t,ρ x with
  | some ti,.iface u v=>(match ti.kind with
   | .iface=>.no
   | _=>bif Ar u t then .val (bif ok then .tup [v,.bool true] else v) else (bif ok then .val (.tup [ti.zero,.bool false]) else .no))
  | some ti,.nilif=>(match ti.kind with
   | .iface=>.no
   | _=>bif ok then .val (.tup [ti.zero,.bool false]) else .no)
  | _,_=>.no)
 | .makeMap t none=>(match cL E.T t with
  | some {kind:=.mp k _,..}=>(match cL E.T k with
   | some tk=>.born (.mp tk.agg []) (.mref base)
   | none=>.no)
  | _=>.no)
 | .lookup t m k ok=>CQ E og t (ρ m) (ρ k) ok
 | .mapUpdate t m k v=>IA E og t (ρ m) (ρ k) (ρ v)
 | .call c=>(match c.callee with
  | .value f=>(match ρ f with
   | .func (.func g) fs cs=>.call (.func g) (NQ (NQ fs (evO ρ c.args.toList)) cs)
   | .func (.yield l) fs _=>.call (.yield l) (NQ fs (evO ρ c.args.toList))
   | _=>.no)
  | .invoke r name=>(match ρ r with
   | .iface t v=>(match Q9 E.mt t name with
    | some g=>.call (.func g) (v::evO ρ c.args.toList)
    | none=>.no)
   | _=>.no)
  | .builtin b=>(match b,c.args.toList,c.argTypes.toList with
   | .len,[x],[t]=>aA4 E og t (ρ x)
   | .min,[x,y],_=>(match ρ x,ρ y with | .int k a,.int k' b=>bif RO k k' then .val (.int k (min a b)) else .no | _,_=>.no)
   | .max,[x,y],_=>(match ρ x,ρ y with | .int k a,.int k' b=>bif RO k k' then .val (.int k (max a b)) else .no | _,_=>.no)
   | .append,[x,y],[t,t2]=>oV E hint base og t t2 (ρ x) (ρ y)
   | .copy,[x,y],[t,t2]=>TC E og t t2 (ρ x) (ρ y)
   | .clear,[x],[t]=>ID E og t (ρ x)
   | .delete,[m,k],[t,_]=>CP E og t (ρ m) (ρ k)
   | _,_,_=>.no))
 | _=>.no
def nrm:AVal->AVal
 | .rowc k g _=>.row k g
 | .pre k g n _ sz=>.sub k g 0 n sz
 | v=>v
def aA7 (E:Env) (hint:Nat) (og:Nat->AObj) (t k g c:Nat) (h:AVal):OR:=
 match cL E.T t,og k,h with
 | some {kind:=.slc _ esz _,..},.row g' sz e xs,.int _ n=>bif (Ar g g'&&Ar sz esz)&&Ea 1 sz then
   .idx n fun y=>(match hint with
    | 0=>.need (y<=xs.length/\0<c) (.val (.pre k g y c sz))
    | _=>.need (xs.length<=y/\y<=c) (.upd k (.row (g+1) sz e (xs++Ai (y-xs.length) (.agg (Ai sz .undef)))) (.row k (g+1))))
  else .no
 | _,_,_=>.no
def TB (E:Env) (og:Nat->AObj) (t k g:Nat) (l h m:AVal):OR:=
 match cL E.T t,og k,l,h,m with
 | some {kind:=.slc _ esz _,..},.row g' sz _ xs,.int _ a,.int _ b,.int _ c=>bif Ar g g'&&Ar sz esz then
   .idx a fun x=>.idx b fun y=>.idx c fun z=>.need ((x<=y/\y<=z)/\z<=xs.length) (.val .undef)
  else .no
 | _,_,_,_,_=>.no
def KZ (E:Env) (base:Nat) (og:Nat->AObj) (t k g n c sz:Nat) (m:AVal):OR:=
 match cL E.T t,og k,m with
 | some {kind:=.slc e esz eb,..},.row g' sz' e' xs,.int .i64 a=>(match cL E.T e with
  | some te=>bif ((Ar g g'&&Ar sz sz')&&(Ar sz esz&&Ar e e'))&&(Ea 1 esz&&xD (pureV (fun _=>.dead) 4 te.zero)) then
    .idx a fun y=>.need (c<n+y/\HZ (n+y) eb) (.born (.row 0 esz e (xs.take n++Ai y (pureV (fun _=>.dead) 4 te.zero))) (.row base 0))
   else .no
  | none=>.no)
 | _,_,_=>.no
def iS (E:Env) (hint base:Nat) (og:Nat->AObj) (ρ:Operand->AVal) (op:Op):Option OR:=
 match op with
 | .move x=>some (.val (ρ x))
 | .assign x=>(match ρ x with
  | .rowc k g c=>some (.val (.rowc k g c))
  | _=>none)
 | .slice t x none (some h) none=>(match ρ x with
  | .rowc k g c=>some (aA7 E hint og t k g c (ρ h))
  | _=>none)
 | .slice t x (some l) (some h) (some m)=>(match ρ x with
  | .row k g=>some (TB E og t k g (ρ l) (ρ h) (ρ m))
  | _=>none)
 | .call c=>(match c.callee with
  | .builtin .cap=>(match c.args.toList,c.argTypes.toList with
   | [x],[t]=>(match ρ x,cL E.T t with
    | .rowc _ _ n,some {kind:=.slc _ _ _,..}=>some (.val (.int .i64 n))
    | _,_=>none)
   | _,_=>none)
  | .builtin .append=>(match c.args.toList,c.argTypes.toList with
   | [x,y],[t,t2]=>(match ρ x,cL E.T t2 with
    | .pre k g n c sz,some {kind:=.int _,..}=>some (KZ E base og t k g n c sz (ρ y))
    | _,_=>none)
   | _,_=>none)
  | _=>none)
 | _=>none
def eop (E:Env) (hint base:Nat) (og:Nat->AObj) (ρ:Operand->AVal) (op:Op) (ty:TypeId):OR:=
 match iS E hint base og ρ op with
 | some r=>r
 | none=>jM E hint base og (fun x=>nrm (ρ x)) op ty
def KDL (f:AVal->(AVal->Prop)->Prop):List AVal->(List AVal->Prop)->Prop
 | [],k=>k []
 | c::r,k=>f c fun c=>KDL f r fun r=>k (c::r)
def KD:Nat->AVal->(AVal->Prop)->Prop
 | 0,v,k=>k v
 | n+1,v,k=>match v with
  | .undef=>k .undef
  | .bool b=>k (.bool b)
  | .int i n=>k (.int i n)
  | .str l=>k (.str l)
  | .slice sz xs t=>(match t with | .no=>k (.slice sz xs .no) | .nil=>k (.slice sz xs .nil) | .full=>k (.slice sz xs .full) | .own a b=>k (.slice sz xs (.own a b)))
  | .agg cs=>KDL (KD n) cs fun cs=>k (.agg cs)
  | .tup cs=>KDL (KD n) cs fun cs=>k (.tup cs)
  | .ptr cs=>k (.ptr cs)
  | .ref a b=>k (.ref a b)
  | .eref a b c d e=>k (.eref a b c d e)
  | .csl a b c d=>k (.csl a b c d)
  | .row a b=>k (.row a b)
  | .sub a b c d e=>k (.sub a b c d e)
  | .rowc a b c=>k (.rowc a b c)
  | .pre a b c d e=>k (.pre a b c d e)
  | .mref a=>k (.mref a)
  | .nilptr=>k .nilptr
  | .nilslice=>k .nilslice
  | .nilmap=>k .nilmap
  | .nilfunc=>k .nilfunc
  | .nilif=>k .nilif
  | .hsl a n c=>k (.hsl a n c)
  | .func fn fs cs=>k (.func fn fs cs)
  | .iface t v=>KD n v fun v=>k (.iface t v)
theorem C7 {f:AVal->(AVal->Prop)->Prop} (hf:∀ v k,f v k=k v) (l:List AVal):∀ (k:List AVal->Prop),KDL f l k=k l:=by
 induction l with
 | nil=>intro k;rfl
 | cons c r ih=>intro k;simp only [KDL,hf,ih]
theorem iO (n:Nat):∀ (v:AVal) (k:AVal->Prop),KD n v k=k v:=by
 induction n with
 | zero=>intro v k;rfl
 | succ n ih=>
  intro v k
  cases v<;>simp only [KD,C7 ih,ih]
  rename_i t
  cases t<;>rfl
def OD (x:AObj) (k:AObj->Prop):Prop:=
 match x with
 | .dead=>k .dead
 | .cells T cs=>KDL (KD 3) cs fun cs=>k (.cells T cs)
 | .fcells cs=>KDL (KD 3) cs fun cs=>k (.fcells cs)
 | .row g sz e xs=>k (.row g sz e xs)
 | .frow g sz xs=>k (.frow g sz xs)
 | .tail g sz e=>k (.tail g sz e)
 | .mp a es=>k (.mp a es)
 | .bun g I=>k (.bun g I)
theorem UE (x:AObj) (k:AObj->Prop):OD x k=k x:=by cases x<;>simp only [OD,C7 (iO 3)]
def ODL:List AObj->(List AObj->Prop)->Prop
 | [],k=>k []
 | c::r,k=>OD c fun c=>ODL r fun r=>k (c::r)
theorem mN (l:List AObj):∀ (k:List AObj->Prop),ODL l k=k l:=by
 induction l with
 | nil=>intro k;rfl
 | cons c r ih=>intro k;simp only [ODL,UE,ih]
def wS:List (Nat×AVal)->Nat->AVal->(List (Nat×AVal)->Prop)->Prop
 | [],n,x,k=>k [(n,x)]
 | (i,v)::r,n,x,k=>bif Ar i n then k ((n,x)::r) else wS r n x fun r=>k ((i,v)::r)
theorem iR (l:List (Nat×AVal)) (n:Nat) (x:AVal):∀ (k:List (Nat×AVal)->Prop),wS l n x k=k (cN l n x):=by
 induction l with
 | nil=>intro k;rfl
 | cons c r ih=>intro k;obtain ⟨i,v⟩:=c;simp only [wS,cN,ih];cases Ar i n<;>rfl
def pos (k:Nat):Nat->List Nat->Option Nat
 | _,[]=>none
 | j,x::r=>bif Ar x k then some j else pos k (j+1) r
def dE:AObj->Nat
 | .row g _ _ _=>g
 | .tail g _ _=>g
 | .bun g _=>g
 | _=>0
def gm (n0 j cur g:Nat):Option Nat:=
 bif Ar g cur then some (bif Du j n0 then (bif Ar cur 0 then 0 else 1) else 0) else (bif Du j n0&&Ar g 0 then some 0 else none)
def cvtV (n0:Nat) (ks:List Nat) (og:Nat->AObj):Nat->AVal->AVal
 | 0,_=>.undef
 | n+1,v=>match v with
  | .slice sz xs t=>(match t with
   | .full=>.slice sz xs .full
   | .nil=>(match ks with | []=>.slice sz xs .no | _::_=>.slice sz xs .nil)
   | .own k g=>(match pos k 0 ks with
    | some j=>(match gm n0 j (dE (og k)) g with | some g=>.slice sz xs (.own j g) | none=>.slice sz xs .no)
    | none=>.slice sz xs .no)
   | _=>.slice sz xs .no)
  | .agg cs=>.agg (dC (cvtV n0 ks og n) cs)
  | .tup cs=>.tup (dC (cvtV n0 ks og n) cs)
  | .func fn fs cs=>.func fn (dC (cvtV n0 ks og n) fs) (dC (cvtV n0 ks og n) cs)
  | .iface t v=>.iface t (cvtV n0 ks og n v)
  | .ref k off=>(match pos k 0 ks with
   | some j=>(match gm n0 j (dE (og k)) 0 with | some _=>.ref j off | none=>.undef)
   | none=>pureV og 1 (.ref k off))
  | .csl k off len sz=>(match pos k 0 ks with
   | some j=>(match gm n0 j (dE (og k)) 0 with | some _=>.csl j off len sz | none=>.undef)
   | none=>pureV og 1 (.csl k off len sz))
  | .row k g=>(match pos k 0 ks with
   | some j=>(match gm n0 j (dE (og k)) g with | some g=>.row j g | none=>.undef)
   | none=>pureV og 1 (.row k g))
  | .sub k g lo len sz=>(match pos k 0 ks with
   | some j=>(match gm n0 j (dE (og k)) g with | some g=>.sub j g lo len sz | none=>.undef)
   | none=>pureV og 1 (.sub k g lo len sz))
  | .mref k=>(match pos k 0 ks with | some j=>(match gm n0 j (dE (og k)) 0 with | some _=>.mref j | none=>.undef) | none=>.undef)
  | .eref _ _ _ _ _=>.undef
  | .rowc _ _ _=>.undef
  | .pre _ _ _ _ _=>.undef
  | v=>v
def IF (n0:Nat) (ks:List Nat) (obs:List AObj) (j:Nat):AObj->AObj
 | .cells T cs=>.cells T (dC (cvtV n0 ks (aE obs) 4) cs)
 | .row g sz e xs=>.row (match gm n0 j g g with | some g=>g | none=>0) sz e xs
 | .tail g sz e=>.tail (match gm n0 j g g with | some g=>g | none=>0) sz e
 | .bun g I=>.bun (match gm n0 j g g with | some g=>g | none=>0) I
 | o=>o
def tR (n0:Nat) (ks:List Nat) (obs:List AObj):Nat->List Nat->List AObj
 | _,[]=>[]
 | j,k::r=>IF n0 ks obs j (aE obs k)::tR n0 ks obs (j+1) r
def gH (n0:Nat) (ks:List Nat) (obs:List AObj):List AObj:=tR n0 ks obs 0 ks
def lE:List Nat->List AObj->Bool
 | [],_=>true
 | k::r,obs=>(aE obs k).owns&& !pA k r&&lE r obs
def GK:Nat->Nat->List Nat
 | _,0=>[]
 | j,n+1=>j::GK (j+1) n
def lN:Nat->Nat->List Nat->Bool
 | 0,_,_=>true
 | n+1,j,k::r=>Ar k j&&lN n (j+1) r
 | _+1,_,[]=>false
def dA (ks:List Nat) (base j:Nat):Nat:=match nth ks j with | some k=>k | none=>base+(j-(olenN ks))
where olenN:List Nat->Nat
 | []=>0
 | _::r=>olenN r+1
def iK (ks:List Nat) (obs:List AObj) (j g:Nat):Nat:=match nth ks j with | some k=>dE (aE obs k)+g | none=>g
def embV (ks:List Nat) (base:Nat) (obs:List AObj):Nat->AVal->AVal
 | 0,_=>.undef
 | n+1,v=>match v with
  | .slice sz xs t=>(match t with
   | .own j g=>.slice sz xs (.own (dA ks base j) (iK ks obs j g))
   | t=>.slice sz xs t)
  | .agg cs=>.agg (dC (embV ks base obs n) cs)
  | .tup cs=>.tup (dC (embV ks base obs n) cs)
  | .func fn fs cs=>.func fn (dC (embV ks base obs n) fs) (dC (embV ks base obs n) cs)
  | .iface t v=>.iface t (embV ks base obs n v)
  | .ref j off=>.ref (dA ks base j) off
  | .csl j off len sz=>.csl (dA ks base j) off len sz
  | .row j g=>.row (dA ks base j) (iK ks obs j g)
  | .sub j g lo len sz=>.sub (dA ks base j) (iK ks obs j g) lo len sz
  | .mref j=>.mref (dA ks base j)
  | .eref _ _ _ _ _=>.undef
  | .rowc _ _ _=>.undef
  | .pre _ _ _ _ _=>.undef
  | v=>v
def nX (ks:List Nat) (base:Nat) (obs:List AObj) (j:Nat):AObj->AObj
 | .cells T cs=>.cells T (dC (embV ks base obs 4) cs)
 | .row g sz e xs=>.row (iK ks obs j g) sz e xs
 | .frow g sz xs=>.frow (iK ks obs j g) sz xs
 | .tail g sz e=>.tail (iK ks obs j g) sz e
 | .bun g I=>.bun (iK ks obs j g) I
 | o=>o
def iJ (ks:List Nat) (base:Nat) (obs:List AObj):Nat->List AObj->List AObj->List AObj
 | _,[],l=>l
 | j,o::r,l=>iJ ks base obs (j+1) r (bK l (dA ks base j) (nX ks base obs j o))
inductive Res where
 | ret (a:AVal)
 | pan (a:AVal)
def oF (M:Imm) (ob:Hs):Ending->Res->Prop
 | .returned v,.ret a=>Rep M ob v a
 | .panicked ch,.pan a=>∃ v,ch=[{v,recovered:=false}]/\Rep M ob v a
 | _,_=>False
def cB (M:Imm) (ob:Hs) (vs:List Value) (as:List AVal):Prop:=
 vs.length=as.length/\∀ (i:Nat) v a,vs[i]? =some v->as[i]? =some a->Rep M ob v a
def iF (P:Program) (f:FuncId) (va:Array Value) (w:World) (R:Ending->World->Prop):Prop:=
 ((callFunc f va).run P w= .ok (.enter f va) w/\Calls P f va w R)\/∃ u w',(callFunc f va).run P w= .ok (.value u) w'/\R (.returned u) w'
def NX (P:Program) (l:Nat) (va:Array Value) (w:World) (R:Ending->World->Prop):Prop:=
 ∃ f tmps as bd,(Instr.yield l va).run P w= .ok (.round l f tmps as bd) w/\RoundIn Fence.wide 0 P l f tmps as bd w R
def yX:Fn->Array Value->Sem Next
 | .func f,va=>callFunc f va
 | .yield l,va=>Instr.yield l va
 | _,va=>callFunc 0 va
@[reducible] def cM (P:Program) (f:Fn) (va:Array Value) (w:World) (R:Ending->World->Prop):Prop:=
 match f with
 | .func f=>iF P f va w R
 | .yield l=>NX P l va w R
 | _=>False
def bM (P:Program) (f:Fn) (args:List AVal) (obs:List AObj) (r:Res) (obs':List AObj):Prop:=
 ∀ M ob w vargs,Mem M ob obs w->cB M ob vargs args->
  cM P f vargs.toArray w fun e w'=>∃ M' ob',Ext M ob obs w M' ob' obs' w'/\Mem M' ob' obs' w'/\oF M' ob' e r
abbrev aA (P:Program) (f:FuncId) (args:List AVal) (obs:List AObj) (r:Res) (obs':List AObj):Prop:=bM P (.func f) args obs r obs'
inductive CallG (P:Program) (f:Fn) (args:List AVal) (obs:List AObj) (K:AVal->List AObj->Prop) (Kp:AVal->List AObj->Prop):Prop
 | pure (r:AVal) (new:List AObj) (h:bM P f (dC (cvtV 0 [] (aE (frzL obs args)) 5) args) [] (.ret r) new) (k:K (embV [] (aO obs) (frzL obs args) 5 r) (iJ [] (aO obs) (frzL obs args) 0 new (frzL obs args)))
 | eff (fz ks:List Nat) (r:AVal) (obs':List AObj) (hk:lE ks (frzs fz obs)=true) (h:bM P f (dC (cvtV 0 ks (aE (frzs fz obs)) 5) args) (gH 0 ks (frzs fz obs)) (.ret r) obs')
   (k:K (embV ks (aO (frzs fz obs)) (frzs fz obs) 5 r) (iJ ks (aO (frzs fz obs)) (frzs fz obs) 0 obs' (frzs fz obs)))
 | effp (fz ks:List Nat) (r:AVal) (obs':List AObj) (hk:lE ks (frzs fz obs)=true) (h:bM P f (dC (cvtV 0 ks (aE (frzs fz obs)) 5) args) (gH 0 ks (frzs fz obs)) (.pan r) obs')
   (k:Kp (embV ks (aO (frzs fz obs)) (frzs fz obs) 5 r) (iJ ks (aO (frzs fz obs)) (frzs fz obs) 0 obs' (frzs fz obs)))
 | pan (r:AVal) (h:bM P f (dC (cvtV 0 [] (aE (frzL obs args)) 5) args) [] (.pan r) []) (k:Kp r (frzL obs args))
inductive CallD (P:Program) (f:Fn) (args:List AVal) (so:Bool) (seen:List AObj) (base:Nat) (obs:List AObj) (K:AVal->List AObj->Prop) (Kp:AVal->List AObj->Prop):Prop
 | pure (r:AVal) (new:List AObj) (h:bM P f (dC (cvtV 0 [] (aE seen) 5) args) [] (.ret r) new) (k:K (embV [] base seen 5 r) (iJ [] base seen 0 new obs)):CallD P f args so seen base obs K Kp
 | sole (h:so=true) (h:CallG P f args obs K Kp):CallD P f args so seen base obs K Kp
def orF (P:Program) (obs:List AObj) (K:AVal->List AObj->Prop) (Kp:AVal->List AObj->Prop):OR->Prop
 | .no=>False
 | .val v=>K v obs
 | .mkf fn fs cs=>K (.func fn fs cs) obs
 | .need p r=>p/\orF P obs K Kp r
 | .alt p v w=>(p/\K v obs)\/K w obs
 | .idx n f=>∃ i:Nat,n=(i:Int)/\orF P obs K Kp (f i)
 | .elem xs i f=>∃ x,xs[i]? =some x/\orF P obs K Kp (f x)
 | .byte l i=>∃ c,l[i]? =some c/\K (.int .u8 (c.toNat:Int)) obs
 | .text xs=>∃ l:List UInt8,xs=l.map ub/\(l.length:Int)<=9223372036854775807/\K (.str l) obs
 | .find es key f=>∃ o,bL es key=o/\orF P obs K Kp (f o)
 | .born x v=>K v (bK obs (aO obs) x)
 | .upd k x v=>K v (bK obs k x)
 | .nilq xs neg=>∀ b:Bool,(b=true->xs=[])->K (.bool (if neg then !b else b)) obs
 | .call f args=>CallG P f args obs K Kp
 | .pan v=>Kp v obs
def nd:AObj->Bool
 | .dead=>false
 | _=>true
def orD (P:Program) (so uo bl:Bool) (seen obs:List AObj) (base:Nat) (K:AVal->List AObj->Prop) (Kp:AVal->List AObj->Prop):OR->Prop
 | .val v=>K v obs
 | .mkf fn fs cs=>K (.func fn fs cs) obs
 | .need p r=>p/\orD P so uo bl seen obs base K Kp r
 | .alt p v w=>(p/\K v obs)\/K w obs
 | .idx n f=>∃ i:Nat,n=(i:Int)/\orD P so uo bl seen obs base K Kp (f i)
 | .elem xs i f=>∃ x,xs[i]? =some x/\orD P so uo bl seen obs base K Kp (f x)
 | .byte l i=>∃ c,l[i]? =some c/\K (.int .u8 (c.toNat:Int)) obs
 | .text xs=>∃ l:List UInt8,xs=l.map ub/\(l.length:Int)<=9223372036854775807/\K (.str l) obs
 | .find es key f=>∃ o,bL es key=o/\orD P so uo bl seen obs base K Kp (f o)
 | .born x v=>(match bl with | true=>False | false=>K v (bK obs base x))
 | .upd k x v=>(match (so||(uo&&nd (aE seen k))) with | true=>K v (bK obs k x) | false=>False)
 | .nilq xs neg=>(match so with | true=>∀ b:Bool,(b=true->xs=[])->K (.bool (if neg then !b else b)) obs | false=>False)
 | .call f args=>(match bl with | true=>False | false=>CallD P f args so seen base obs K Kp)
 | .pan v=>(match so with | true=>Kp v obs | false=>False)
 | .no=>False
def bZ (all:List Oper) (ρ:Operand->AVal) (g:Option (Nat×Bool)):Option Bool:=
 match g with
 | none=>some true
 | some (j,want)=>match nth all j with
  | some p=>match p.dst with
   | some d=>match ρ (.tmp d) with
    | .bool b=>some (b==want)
    | .tup []=>some false
    | _=>none
   | none=>none
  | none=>none
def rF (n:Nat):List Oper->Bool
 | []=>false
 | o::r=>(match o.guard with | some (j,_)=>Ar j n | none=>false)||rF n r
def cP (E:Env):Option Nat->Nat
 | none=>0
 | some d=>bif pA d E.own then 1 else bif pA d E.rws then 2 else 0
def jD (fr:List (Nat×AVal)):Option Nat->AVal->List (Nat×AVal)
 | none,_=>fr
 | some d,v=>cN fr d v
def wrP (rest:List Oper) (n:Nat) (d:Option Nat) (fr:List (Nat×AVal)) (v:AVal) (k:List (Nat×AVal)->Prop):Prop:=
 match d with
 | none=>k fr
 | some d=>bif rF n rest then (match v with
   | .bool b=>(b=true->k (cN fr d (.bool true)))/\(b=false->k (cN fr d (.bool false)))
   | _=>False)
  else k (cN fr d v)
def dN (E:Env) (all:List Oper) (K:List (Nat×AVal)->List AObj->Prop) (Kp:(Nat->AVal)->AVal->List AObj->Prop):Nat->List Oper->List (Nat×AVal)->List AObj->Prop
 | _,[],fr,obs=>K fr obs
 | n,p::rest,fr,obs=>match bZ all (ev fr) p.guard with
  | none=>False
  | some false=>dN E all K Kp (n+1) rest (jD fr p.dst (.tup [])) obs
  | some true=>orF E.P obs (fun v obs=>wrP rest n p.dst fr v fun fr=>dN E all K Kp (n+1) rest fr obs) (Kp (aX fr))
    (eop E (cP E p.dst) (aO obs) (aE obs) (ev fr) p.op p.type)
def fC (p:Oper):List Nat:=(p.after.toList.filter (Ha .any)).map (·.on)
def cD (m i:Nat):Bool:=Ar (Nat.land (Nat.shiftRight m i) 1) 1
def cH:List Nat->Nat->Nat
 | [],_=>0
 | x::_,0=>x
 | _::r,n+1=>cH r n
def gG (tab:List Nat):List Nat->Nat
 | []=>0
 | i::r=>Ku (Ku (Nat.shiftLeft 1 i) (cH tab i)) (gG tab r)
def eW:List Nat->List Oper->List Nat
 | tab,[]=>tab
 | tab,p::r=>eW (tab++[gG tab (fC p)]) r
def aBE (n:Nat) (k:Nat->Prop):Prop:=match n with | 0=>k 0 | m+1=>k (m+1)
theorem WL (n:Nat) (k:Nat->Prop):aBE n k=k n:=by cases n<;>rfl
def JE:List Nat->Nat->(List Nat->Prop)->Prop
 | [],m,k=>k [m]
 | x::r,m,k=>JE r m fun r=>k (x::r)
theorem OM (l:List Nat) (m:Nat):∀ (k:List Nat->Prop),JE l m k=k (l++[m]):=by
 induction l with
 | nil=>intro k;rfl
 | cons x r ih=>intro k;simp only [JE,ih,Hj]
def K9:List Nat->List Oper->(List Nat->Prop)->Prop
 | tab,[],k=>k tab
 | tab,p::r,k=>aBE (gG tab (fC p)) fun m=>JE tab m fun tab=>K9 tab r k
theorem T5 (l:List Oper):∀ (tab:List Nat) (k:List Nat->Prop),K9 tab l k=k (eW tab l):=by
 induction l with
 | nil=>intro tab k;rfl
 | cons p r ih=>intro tab k;simp only [K9,eW,WL,OM,ih]
def loose (tab:List Nat) (i j:Nat):Bool:=!Ar i j&& !cD (cH tab j) i&& !cD (cH tab i) j
def E8 (tab:List Nat) (j t:Nat):Nat->List Oper->Bool
 | _,[]=>false
 | i,p::r=>(match p.dst with | some d=>Ar d t&&loose tab i j | none=>false)||E8 tab j t (i+1) r
def evH (tab:List Nat) (all:List Oper) (j:Nat) (fr:List (Nat×AVal)):Operand->AVal
 | .tmp t=>bif E8 tab j t 0 all then .undef else aX fr t
 | x=>ev fr x
def mW:List Nat->List AObj->List AObj
 | [],obs=>obs
 | k::r,obs=>mW r (bK obs k .dead)
def zR (tab:List Nat) (j:Nat):List (Nat×Nat)->List Nat
 | []=>[]
 | (i,k)::r=>bif cD (cH tab j) i then zR tab j r else k::zR tab j r
def sole (tab:List Nat) (j:Nat):Nat->List Oper->Bool
 | _,[]=>true
 | i,_::r=>!loose tab i j&&sole tab j (i+1) r
def blD (E:Env):Option Nat->Bool
 | none=>false
 | some d=>pA d E.bl
def AF (E:Env) (tab:List Nat) (j:Nat):Nat->List Oper->Bool
 | _,[]=>true
 | i,p::r=>(!loose tab i j||blD E p.dst)&&AF E tab j (i+1) r
def soN (E:Env) (tab:List Nat) (all:List Oper) (n:Nat) (d:Option Nat):Bool:=sole tab n 0 all&& !blD E d
def uoN (E:Env) (tab:List Nat) (all:List Oper) (n:Nat) (d:Option Nat):Bool:=AF E tab n 0 all&& !blD E d
def mO (E:Env) (tab:List Nat) (n:Nat) (br:List (Nat×Nat)) (obs:List AObj) (d:Option Nat):List AObj:=bif blD E d then [] else mW (zR tab n br) obs
def born (j base:Nat):List AObj->List (Nat×Nat)->List (Nat×Nat)
 | [],br=>br
 | _::r,br=>(j,base)::born j (base+1) r br
def fI:Nat->List AObj->List AObj
 | 0,l=>l
 | _+1,[]=>[]
 | n+1,_::l=>fI n l
def gB (E:Env) (all:List Oper) (tab:List Nat) (K:List (Nat×AVal)->List AObj->Prop) (Kp:(Nat->AVal)->AVal->List AObj->Prop):Nat->List Oper->List (Nat×Nat)->List (Nat×AVal)->List AObj->Prop
 | _,[],_,fr,obs=>K fr obs
 | n,p::rest,br,fr,obs=>
  match bZ all (evH tab all n fr) p.guard with
  | none=>False
  | some false=>gB E all tab K Kp (n+1) rest br (jD fr p.dst (.tup [])) obs
  | some true=>orD E.P (soN E tab all n p.dst) (uoN E tab all n p.dst) (blD E p.dst) (mO E tab n br obs p.dst) obs (aO obs) (fun v obs'=>wrP rest n p.dst fr v fun fr=>gB E all tab K Kp (n+1) rest (born n (aO obs) (fI (aO obs) obs') br) fr obs') (Kp (aX fr))
     (eop E (cP E p.dst) (aO obs) (aE (mO E tab n br obs p.dst)) (evH tab all n fr) p.op p.type)
inductive KI where
 | code (c:Code) | inB (id:Nat) | inL (c:Code) | beginR
def yD (id:Nat):List KI->Option (List KI)
 | []=>none
 | .inB i::r=>bif Ar i id then some r else yD id r
 | _::r=>yD id r
inductive Goal where
 | pure (r:Res)
 | full (n0:Nat) (r:Res) (obs':List AObj)
 | keep (n0:Nat) (r:Res) (obs':List AObj)
def aAf (E:Env) (obs:List AObj) (fr:List (Nat×AVal)):ResultVar->Option AVal
 | .tmp t=>some (aX fr t)
 | .cell t ty=>match cL E.T ty,aX fr t with
  | some ti,.ref k off=>match aE obs k with
   | .cells _ cs=>match jN ti.size (iN off cs) with | some l=>mk ti l | none=>none
   | _=>none
  | _,_=>none
def PJ (E:Env) (obs:List AObj) (fr:List (Nat×AVal)):List ResultVar->Option (List AVal)
 | []=>some []
 | r::rs=>match aAf E obs fr r,PJ E obs fr rs with
  | some v,some vs=>some (v::vs)
  | _,_=>none
def PK (E:Env) (obs:List AObj) (rs:List ResultVar) (fr:List (Nat×AVal)):Option AVal:=
 match PJ E obs fr rs with
 | some [v]=>some v
 | some vs=>some (.tup vs)
 | none=>none
def aCo (n:Nat):Tk->Bool
 | .own k _=>Du k n
 | _=>true
def yZ (f:AVal->Bool):List AVal->Bool
 | []=>true
 | c::r=>f c&&yZ f r
def bel (n:Nat):Nat->AVal->Bool
 | 0,_=>false
 | m+1,a=>match a with
  | .slice _ _ t=>aCo n t
  | .agg cs=>yZ (bel n m) cs
  | .tup cs=>yZ (bel n m) cs
  | .ref k _=>Du k n
  | .eref k _ _ _ _=>Du k n
  | .csl k _ _ _=>Du k n
  | .row k _=>Du k n
  | .sub k _ _ _ _=>Du k n
  | .rowc k _ _=>Du k n
  | .pre k _ _ _ _=>Du k n
  | .mref k=>Du k n
  | .func _ fs cs=>yZ (bel n m) fs&&yZ (bel n m) cs
  | .iface _ v=>bel n m v
  | _=>true
def zY (n:Nat):List AObj->Bool
 | []=>true
 | .cells _ cs::r=>yZ (bel n 5) cs&&zY n r
 | _::r=>zY n r
def T3 (n:Nat):List (Nat×AVal)->Bool
 | []=>true
 | (_,v)::r=>bel n 5 v&&T3 n r
def kX:Nat->List AObj->List AObj
 | 0,_=>[]
 | _+1,[]=>[]
 | n+1,x::r=>x::kX n r
def FO (g:Goal) (mkR:AVal->Res) (v:AVal) (obs:List AObj):Prop:=
 match g with
 | .pure r=>mkR (cvtV 0 [] (aE (frzL obs [v])) 5 v)=r
 | .full n0 r obs'=>∃ fz ks,(lE ks (frzs fz obs)=true/\lN n0 0 ks=true)/\mkR (cvtV n0 ks (aE (frzs fz obs)) 5 v)=r/\gH n0 ks (frzs fz obs)=obs'
 | .keep n0 r obs'=>(bel n0 5 v=true/\zY n0 (kX n0 obs)=true)/\mkR v=r/\kX n0 obs=obs'
def Goal.n0:Goal->Nat
 | .pure _=>0
 | .full n _ _=>n
 | .keep n _ _=>n
def cR (fn:Func):Code:=fn.body.getD .skip
def vZ:Nat->Code->List KI->List KI ⊕ Nat
 | n,.seq a b,ks=>match vZ n a (.code b::ks) with | .inl r=>.inl r | .inr n=>vZ n b ks
 | n,.cond _ a b,ks=>match vZ n a ks with | .inl r=>.inl r | .inr n=>vZ n b ks
 | n,.block id b,ks=>vZ n b (.inB id::ks)
 | 0,.loop b,ks=>.inl (.code b:: .inL b::ks)
 | n+1,.loop b,ks=>vZ n b (.inL b::ks)
 | n,_,_=>.inr n
def stk (fn:Func) (n:Nat):List KI:=match vZ n (cR fn) [] with | .inl r=>r | .inr _=>[]
def frA:Nat->List AVal->List (Nat×AVal)
 | _,[]=>[]
 | n,a::r=>(n,a)::frA (n+1) r
def mP:List Nat->List (Nat×AVal)->List (Nat×AVal)
 | [],_=>[]
 | t::r,fr=>(t,aX fr t)::mP r fr
structure RI where
 all:List Oper
 dr:Bool
 tab:List Nat
 ks:List KI
inductive St where
 | code (ks:List KI) (fr:List (Nat×AVal)) (obs:List AObj)
 | head (ks:List KI) (fr:List (Nat×AVal)) (obs:List AObj)
 | mid (R:RI) (n:Nat) (rest:List Oper) (br:List (Nat×Nat)) (fr:List (Nat×AVal)) (obs:List AObj)
 | pend (R:RI) (n:Nat) (d:Option Nat) (rest:List Oper) (br:List (Nat×Nat)) (fr:List (Nat×AVal)) (obs:List AObj) (r:OR)
 | got (R:RI) (n:Nat) (d:Option Nat) (rest:List Oper) (br:List (Nat×Nat)) (fr:List (Nat×AVal)) (len:Nat) (obs:List AObj) (v:AVal)
 | leave (p:Option AVal) (fr:List (Nat×AVal)) (obs:List AObj)
def S5 (g:Goal) (mkR:AVal->Res) (v:AVal) (obs:List AObj):Prop:=
 match g with
 | .pure r=>KD 5 (cvtV 0 [] (aE (frzL obs [v])) 5 v) fun y=>mkR y=r
 | .full n0 r obs'=>∃ fz ks,(lE ks (frzs fz obs)=true/\lN n0 0 ks=true)/\KD 5 (cvtV n0 ks (aE (frzs fz obs)) 5 v) fun y=>ODL (gH n0 ks (frzs fz obs)) fun os=>mkR y=r/\os=obs'
 | .keep n0 r obs'=>(bel n0 5 v=true/\zY n0 (kX n0 obs)=true)/\ODL (kX n0 obs) fun os=>mkR v=r/\os=obs'
theorem CO (g:Goal) (mkR:AVal->Res) (v:AVal) (obs:List AObj):S5 g mkR v obs=FO g mkR v obs:=by
 cases g<;>simp only [S5,FO,iO,mN]
def V5 (E:Env) (g:Goal) (J:St->Prop) (fr:List (Nat×AVal)) (v:AVal) (obs:List AObj):Prop:=match E.rd with
 | some _=>False
 | none=>match E.df with
  | []=>FO g .pan v obs
  | _::_=>J (.leave (some v) fr obs)
def VN (E:Env) (fn:Func) (g:Goal) (J:St->Prop) (b:Bool) (fr:List (Nat×AVal)) (obs:List AObj):Prop:=match E.rd with
 | some _=>S5 g .ret (.bool b) obs
 | none=>match E.df with
  | []=>(match PK E obs fn.results.toList fr with | some v=>KD 5 v fun v=>S5 g .ret v obs | none=>False)
  | _::_=>J (.leave none fr obs)
def aBL:List Oper->Bool
 | [p]=>(match p.op with | .defer _=>true | _=>false)
 | _=>false
def bN (E:Env) (fn:Func) (g:Goal) (J:St->Prop):Nat->St->Prop
 | 0,s=>J s
 | n+1,.head ks fr obs=>bN E fn g J n (.code ks fr obs)
 | _+1,.leave p fr obs=>J (.leave p fr obs)
 | _+1,.code [] fr obs=>VN E fn g J true fr obs
 | n+1,.code (k::ks) fr obs=>(match k with
  | .inB _=>bN E fn g J n (.code ks fr obs)
  | .inL b=>J (.head (.code b:: .inL b::ks) fr obs)
  | .beginR=>J (.code (.beginR::ks) fr obs)
  | .code q=>match q with
   | .skip=>bN E fn g J n (.code ks fr obs)
   | .seq a b=>bN E fn g J n (.code (.code a:: .code b::ks) fr obs)
   | .block id b=>bN E fn g J n (.code (.code b:: .inB id::ks) fr obs)
   | .loop b=>J (.head (.code b:: .inL b::ks) fr obs)
   | .exit id=>(match yD id ks with
    | some ks=>bN E fn g J n (.code ks fr obs)
    | none=>False)
   | .ret=>VN E fn g J false fr obs
   | .rangeFunc x ps as bd=>J (.code (.code (.rangeFunc x ps as bd)::ks) fr obs)
   | .cond x a b=>(match ev fr x with
    | .bool p=>(p=true->J (.code (.code a::ks) fr obs))/\(p=false->J (.code (.code b::ks) fr obs))
    | _=>False)
   | .region id ops dr=>(match aBL ops.toList with
    | true=>J (.code (.code (.region id ops dr)::ks) fr obs)
    | false=>(match dr with
     | false=>bN E fn g J n (.mid ⟨ops.toList,false,[],ks⟩ 0 ops.toList [] fr obs)
     | true=>K9 [] ops.toList fun tab=>bN E fn g J n (.mid ⟨ops.toList,true,tab,ks⟩ 0 ops.toList [] fr obs)))
   | _=>False)
 | n+1,.mid R _ [] _ fr obs=>bN E fn g J n (.code R.ks fr obs)
 | n+1,.mid R i (p::rest) br fr obs=>(match R.dr with
  | false=>(match bZ R.all (ev fr) p.guard with
   | none=>False
   | some false=>(match p.dst with | none=>bN E fn g J n (.mid R (i+1) rest br fr obs) | some d=>wS fr d (.tup []) fun fr=>bN E fn g J n (.mid R (i+1) rest br fr obs))
   | some true=>bN E fn g J n (.pend R i p.dst rest br fr obs (eop E (cP E p.dst) (aO obs) (aE obs) (ev fr) p.op p.type)))
  | true=>(match bZ R.all (evH R.tab R.all i fr) p.guard with
   | none=>False
   | some false=>(match p.dst with | none=>bN E fn g J n (.mid R (i+1) rest br fr obs) | some d=>wS fr d (.tup []) fun fr=>bN E fn g J n (.mid R (i+1) rest br fr obs))
   | some true=>ODL (mO E R.tab i br obs p.dst) fun seen=>bN E fn g J n (.pend R i p.dst rest br fr obs (eop E (cP E p.dst) (aO obs) (aE seen) (evH R.tab R.all i fr) p.op p.type))))
 | n+1,.pend R i d rest br fr obs r=>(match r with
  | .no=>False
  | .val v=>KD 4 v fun v=>bN E fn g J n (.got R i d rest br fr (aO obs) obs v)
  | .mkf f fs cs=>KDL (KD 3) fs fun fs=>KDL (KD 3) cs fun cs=>bN E fn g J n (.got R i d rest br fr (aO obs) obs (.func f fs cs))
  | .need p r=>p/\J (.pend R i d rest br fr obs r)
  | .alt p v w=>(p/\J (.got R i d rest br fr (aO obs) obs v))\/J (.got R i d rest br fr (aO obs) obs w)
  | .idx m f=>∃ x:Nat,m=(x:Int)/\J (.pend R i d rest br fr obs (f x))
  | .elem xs m f=>∃ x,xs[m]? =some x/\J (.pend R i d rest br fr obs (f x))
  | .byte l m=>∃ c,l[m]? =some c/\J (.got R i d rest br fr (aO obs) obs (.int .u8 (c.toNat:Int)))
  | .text xs=>∃ l:List UInt8,xs=l.map ub/\(l.length:Int)<=9223372036854775807/\J (.got R i d rest br fr (aO obs) obs (.str l))
  | .find es key f=>∃ o,bL es key=o/\J (.pend R i d rest br fr obs (f o))
  | .born x v=>(match (R.dr&&blD E d) with
   | true=>False
   | false=>OD x fun x=>ODL (bK obs (aO obs) x) fun obs'=>KD 4 v fun v=>bN E fn g J n (.got R i d rest br fr (aO obs) obs' v))
  | .upd k x v=>(match (!R.dr||(soN E R.tab R.all i d||(uoN E R.tab R.all i d&&nd (aE (mO E R.tab i br obs d) k)))) with
   | true=>OD x fun x=>ODL (bK obs k x) fun obs'=>KD 4 v fun v=>bN E fn g J n (.got R i d rest br fr (aO obs) obs' v)
   | false=>False)
  | .nilq xs neg=>(match (!R.dr||soN E R.tab R.all i d) with
   | true=>∀ b:Bool,(b=true->xs=[])->J (.got R i d rest br fr (aO obs) obs (.bool (if neg then !b else b)))
   | false=>False)
  | .call f args=>KDL (KD 5) args fun args=>(match R.dr with
   | false=>CallG E.P f args obs (fun v obs'=>J (.got R i d rest br fr (aO obs) obs' v)) (V5 E g J fr)
   | true=>match blD E d with
    | true=>False
    | false=>ODL (mO E R.tab i br obs d) fun seen=>CallD E.P f args (soN E R.tab R.all i d) seen (aO obs) obs (fun v obs'=>J (.got R i d rest br fr (aO obs) obs' v)) (V5 E g J fr))
  | .pan v=>(match (!R.dr||soN E R.tab R.all i d) with
   | true=>KD 5 v fun v=>(match E.rd with | some _=>False | none=>match E.df with | []=>S5 g .pan v obs | _::_=>J (.leave (some v) fr obs))
   | false=>False))
 | n+1,.got R i d rest br fr len obs v=>KD 4 v fun v=>ODL obs fun obs=>(match d with
  | none=>bN E fn g J n (.mid R (i+1) rest (bif R.dr then born i len (fI len obs) br else br) fr obs)
  | some d=>bif rF i rest then (match v with
    | .bool b=>(b=true->wS fr d (.bool true) fun fr=>J (.mid R (i+1) rest (bif R.dr then born i len (fI len obs) br else br) fr obs))/\
      (b=false->wS fr d (.bool false) fun fr=>J (.mid R (i+1) rest (bif R.dr then born i len (fI len obs) br else br) fr obs))
    | _=>False)
   else wS fr d v fun fr=>bN E fn g J n (.mid R (i+1) rest (bif R.dr then born i len (fI len obs) br else br) fr obs))
theorem tJ {i n:Nat} (h:¬ i=n):Ar i n=false:=by
 cases hb:Ar i n with
 | false=>rfl
 | true=>exact absurd (Hi hb) h
theorem aB {i n:Nat} (h:Ar i n=true):i=n:=Hi h
theorem aS {a b:Bool} (h:(a&&b)=true):a=true/\b=true:=by simpa using h
theorem bI (l:List AObj):aO l=l.length:=by
 induction l with
 | nil=>rfl
 | cons x r ih=>simp [aO,ih]
theorem qZ {l:List AObj}:∀ {n:Nat},n<l.length->l[n]? =some (aE l n):=by
 induction l with
 | nil=>intro n h;simp at h
 | cons x r ih=>intro n h;cases n with
  | zero=>rfl
  | succ n=>simpa [aE] using ih (n:=n) (by simpa using h)
theorem bP {l:List AObj}:∀ {n:Nat} {x:AObj},aE l n=x->x≠ .dead->l[n]? =some x:=by
 induction l with
 | nil=>intro n x h hx;exact absurd h.symm (by simpa [aE] using hx)
 | cons y r ih=>intro n x h hx;cases n with
  | zero=>simpa [aE] using h
  | succ n=>simpa using ih (n:=n) h hx
theorem eR {l:List AObj}:∀ {n:Nat} {x:AObj},l[n]? =some x->aE l n=x:=by
 induction l with
 | nil=>intro n x h;simp at h
 | cons y r ih=>intro n x h;cases n with
  | zero=>simpa [aE] using h
  | succ n=>exact ih (n:=n) (by simpa using h)
theorem fS {l:List AObj}:∀ {n:Nat} (x:AObj),n<l.length->bK l n x=l.set n x:=by
 induction l with
 | nil=>intro n x h;simp at h
 | cons y r ih=>intro n x h;cases n with
  | zero=>rfl
  | succ n=>simp only [bK,List.set_cons_succ];rw [ih x (by simpa using h)]
theorem EE (l:List AObj) (x:AObj):bK l l.length x=l++[x]:=by
 induction l with
 | nil=>rfl
 | cons y r ih=>simp [bK,ih]
theorem jP (n:Nat):∀ (l:List AVal),iN n l=l.drop n:=by
 induction n with
 | zero=>intro l;cases l<;>rfl
 | succ n ih=>intro l;cases l with
  | nil=>rfl
  | cons c r=>simpa [iN] using ih r
theorem gO {n:Nat}:∀ {l r:List AVal},jN n l=some r->r.length=n/\∀ (i:Nat) c,r[i]? =some c->l[i]? =some c:=by
 induction n with
 | zero=>intro l r h;cases h;exact ⟨rfl,fun i c hc=>by simp at hc⟩
 | succ n ih=>
  intro l r h
  cases l with
  | nil=>cases h
  | cons c l=>
   simp only [jN] at h
   split at h
   .rename_i r' hr
    cases h
    obtain ⟨h1,h2⟩:=ih hr
    refine ⟨by simp [h1],fun i d hd=>?_⟩
    cases i with
    | zero=>simpa using hd
    | succ i=>simpa using h2 i d (by simpa using hd)
   .cases h
theorem NH:∀ {new l r:List AVal},II new l=some r->new.length<=l.length/\r.length=l.length/\∀ (i:Nat),r[i]? =if i<new.length then new[i]? else l[i]?:=by
 intro new
 induction new with
 | nil=>intro l r h;cases h;exact ⟨by simp,rfl,fun i=>by simp⟩
 | cons c new ih=>
  intro l r h
  cases l with
  | nil=>cases h
  | cons d l=>
   simp only [II] at h
   split at h
   .rename_i x hx
    cases h
    obtain ⟨h1,h2,h3⟩:=ih hx
    refine ⟨by simp;omega,by simp [h2],fun i=>?_⟩
    cases i with
    | zero=>simp
    | succ i=>simpa using h3 i
   .cases h
theorem iD {off:Nat}:∀ {new l r:List AVal},kM off new l=some r->off+new.length<=l.length/\r.length=l.length/\∀ (i:Nat),r[i]? =if off<=i/\i<off+new.length then new[i-off]? else l[i]?:=by
 induction off with
 | zero=>
  intro new l r h
  obtain ⟨h1,h2,h3⟩:=NH (show II new l=some r by cases l<;>exact h)
  exact ⟨by omega,h2,fun i=>by rw [h3 i];simp⟩
 | succ n ih=>
  intro new l r h
  cases l with
  | nil=>cases h
  | cons c l=>
   simp only [kM] at h
   split at h
   .rename_i x hx
    cases h
    obtain ⟨h1,h2,h3⟩:=ih hx
    refine ⟨by simp;omega,by simp [h2],fun i=>?_⟩
    cases i with
    | zero=>simp
    | succ i=>
     simp only [Fv,h3 i]
     by_cases hc:n<=i/\i<n+new.length
     .rw [if_pos hc,if_pos ⟨by omega,by omega⟩]
      congr 1
      omega
     .rw [if_neg hc,if_neg (by omega)]
   .cases h
theorem rS (l:List AVal):FU l=l.length:=by
 induction l with
 | nil=>rfl
 | cons c r ih=>simp [FU,ih]
theorem kH {α:Type} (l:List α):∀ (n:Nat),nth l n=l[n]?:=by
 induction l with
 | nil=>intro n;cases n<;>rfl
 | cons x r ih=>intro n;cases n with
  | zero=>rfl
  | succ n=>simpa [nth] using ih n
theorem fT {α:Type} {l:List α} {n:Nat} {x:α} (h:nth l n=some x):l[n]? =some x:=by rw [<-kH];exact h
theorem C6 (a b:List AVal):NQ a b=a++b:=by
 induction a with
 | nil=>rfl
 | cons c r ih=>simp [NQ,ih]
theorem rD (f:AVal->AVal) (l:List AVal):dC f l=l.map f:=by
 induction l with
 | nil=>rfl
 | cons c r ih=>simp [dC,ih]
theorem jH {n:Nat}:∀ {l:List Nat},pA n l=true↔n∈l
 | []=>by simp [pA]
 | x::r=>by
  simp only [pA,Dg,jH (l:=r),Bh]
  constructor
  .rintro (h | h)
   .exact .inl (aB h).symm
   .exact .inr h
  .rintro (h | h)
   .subst h;exact .inl (by simp)
   .exact .inr h
theorem sU (fr:List (Nat×AVal)) (n m:Nat) (x:AVal):aX (cN fr n x) m=if m=n then x else aX fr m:=by
 induction fr with
 | nil=>
  simp only [cN,aX]
  by_cases h:m=n
  .subst h;simp
  .rw [tJ (fun e=>h e.symm),if_neg h];rfl
 | cons p r ih=>
  obtain ⟨i,v⟩:=p
  simp only [cN]
  cases hb:Ar i n with
  | true=>
   have:=aB hb
   subst this
   simp only [cond_true,aX]
   by_cases h:m=i
   .subst h;simp
   .rw [tJ (fun e=>h e.symm),if_neg h];rfl
  | false=>
   simp only [cond_false,aX,ih]
   by_cases h:m=n
   .subst h
    rw [hb,if_pos rfl,if_pos rfl];rfl
   .rw [if_neg h,if_neg h]
theorem bH (b o j:Nat):(⟨b,o,none⟩:Addr).add j=⟨b,o+j,none⟩:=by
 unfold Addr.add;split<;>simp_all
theorem dK {α:Type} {b:Bool} {x:Option α} {r:α} (h:(bif b then x else none)=some r):b=true/\x=some r:=by
 cases b<;>simp at h;exact ⟨rfl,h⟩
section
variable {M:Imm} {ob:Hs} {obs:List AObj} {w:World}
theorem Rep.int_inv {v:Value} {k:IntKind} {n:Int} (h:Rep M ob v (.int k n)):v= .int k n/\inR k n:=by cases h with | int _ _ h=>exact ⟨rfl,h⟩
theorem Rep.bool_inv {v:Value} {b:Bool} (h:Rep M ob v (.bool b)):v= .bool b:=by cases h;rfl
theorem Rep.str_inv {v:Value} {l:List UInt8} (h:Rep M ob v (.str l)):v= .string ⟨l.toArray⟩/\(l.length:Int)<=9223372036854775807:=by cases h with | str _ h=>exact ⟨rfl,h⟩
theorem Rep.agg_inv {v:Value} {as:List AVal} (h:Rep M ob v (.agg as)):∃ vs:List Value,v= .agg vs.toArray/\vs.length=as.length/\∀ (i:Nat) u a,vs[i]? =some u->as[i]? =some a->Rep M ob u a:=by
 cases h with | agg vs as hl h=>exact ⟨vs,rfl,hl,h⟩
theorem Rep.tup_inv {v:Value} {as:List AVal} (h:Rep M ob v (.tup as)):∃ vs:List Value,v= .tuple vs.toArray/\vs.length=as.length/\∀ (i:Nat) u a,vs[i]? =some u->as[i]? =some a->Rep M ob u a:=by
 cases h with | tup vs as hl h=>exact ⟨vs,rfl,hl,h⟩
theorem Rep.ptr_inv {v:Value} {cs:List AVal} (h:Rep M ob v (.ptr cs)):∃ b o,v= .pointer (some ⟨b,o,none⟩)/\∀ (j:Nat) c,cs[j]? =some c->M b (o+j) c:=by
 cases h with | ptr b o cs h=>exact ⟨b,o,rfl,h⟩
theorem Rep.ref_inv {v:Value} {k off:Nat} (h:Rep M ob v (.ref k off)):∃ b,v= .pointer (some ⟨b,off,none⟩)/\at' ob k 0=some (.pointer (some ⟨b,0,none⟩)):=by
 cases h with | ref k off b h=>exact ⟨b,rfl,h⟩
theorem Rep.iface_inv {v:Value} {t:TypeId} {a:AVal} (h:Rep M ob v (.iface t a)):∃ u,v= .iface t u/\Rep M ob u a:=by
 cases h with | iface _ v _ h=>exact ⟨v,rfl,h⟩
theorem Rep.row_inv {v:Value} {k g:Nat} (h:Rep M ob v (.row k g)):∃ a n c,v= .slice a n c/\at' ob k g=some (.slice a n c):=by
 cases h with | row _ _ a n c h=>exact ⟨a,n,c,rfl,h⟩
theorem Rep.untok {v:Value} {sz:Nat} {xs:List AVal} {t:Tk} (h:Rep M ob v (.slice sz xs t)):Rep M ob v (.slice sz xs .no)/\pC ob v t:=by
 cases h with
 | slnil sz t ht=>exact ⟨.slnil sz .no trivial,ht⟩
 | slemp sz t a cap ht=>exact ⟨.slemp sz .no a cap trivial,ht⟩
 | sl sz b o n cap xs t hn hc hm hz h ht=>exact ⟨.sl sz b o n cap xs .no hn hc hm hz h trivial,ht⟩
theorem Rep.tok {v:Value} {sz:Nat} {xs:List AVal} {t:Tk} (h:Rep M ob v (.slice sz xs .no)) (ht:pC ob v t):Rep M ob v (.slice sz xs t):=by
 cases h with
 | slnil sz _=>exact .slnil sz t ht
 | slemp sz _ a cap _=>exact .slemp sz t a cap ht
 | sl sz b o n cap xs _ hn hc hm hz h _=>exact .sl sz b o n cap xs t hn hc hm hz h ht
theorem Rep.slice_pure {v:Value} {sz:Nat} {xs:List AVal} (h:Rep M ob v (.slice sz xs .no)):Rep M [] v (.slice sz xs .no):=by
 cases h with
 | slnil sz _=>exact .slnil sz .no trivial
 | slemp sz _ a cap _=>exact .slemp sz .no a cap trivial
 | sl sz b o n cap xs _ hn hc hm hz h _=>exact .sl sz b o n cap xs .no hn hc hm hz h trivial
theorem Rep.slice_inv {v:Value} {sz:Nat} {xs:List AVal} {t:Tk} (h:Rep M ob v (.slice sz xs t)):∃ a c,v= .slice a xs.length c/\(a=none->xs=[]/\c=0)/\(xs≠[]->xs.length<=c)/\(xs.length:Int)<=9223372036854775807:=by
 cases h with
 | slnil sz t ht=>exact ⟨none,0,rfl,fun _=>⟨rfl,rfl⟩,fun h=>absurd rfl h,by simp⟩
 | slemp sz t a cap ht=>exact ⟨some a,cap,rfl,fun h=>(by cases h),fun h=>absurd rfl h,by simp⟩
 | sl sz b o n cap xs t hn hc hm hz h ht=>subst hn;exact ⟨_,cap,rfl,fun h=>(by cases h),fun _=>hc,hm⟩
theorem Rep.sl_inv {v:Value} {sz:Nat} {xs:List AVal} {t:Tk} (h:Rep M ob v (.slice sz xs t)):(v= .slice none 0 0/\xs=[])\/(∃ a cap,v= .slice (some a) 0 cap/\xs=[])\/
  ∃ b o cap,v= .slice (some ⟨b,o,none⟩) xs.length cap/\xs.length<=cap/\(xs.length:Int)<=9223372036854775807/\(∀ x∈xs,x.cells.length=sz)/\∀ (i j:Nat) x c,xs[i]? =some x->x.cells[j]? =some c->M b (o+i*sz+j) c:=by
 cases h with
 | slnil sz t ht=>exact .inl ⟨rfl,rfl⟩
 | slemp sz t a cap ht=>exact .inr (.inl ⟨a,cap,rfl,rfl⟩)
 | sl sz b o n cap xs t hn hc hm hz h ht=>subst hn;exact .inr (.inr ⟨b,o,cap,rfl,hc,hm,hz,h⟩)
theorem Rep.cells {v:Value} {a:AVal} (h:Rep M ob v a) (hu:a≠ .undef):v.cells.toList.length=a.cells.length/\∀ (i:Nat) u c,v.cells.toList[i]? =some u->a.cells[i]? =some c->Rep M ob u c:=by
 have gen:∀ {v:Value} {a:AVal},Rep M ob v a->v.cells= #[v]->a.cells=[a]->v.cells.toList.length=a.cells.length/\∀ (i:Nat) u c,v.cells.toList[i]? =some u->a.cells[i]? =some c->Rep M ob u c:=by
  intro v a h e1 e2
  rw [e1,e2]
  refine ⟨rfl,fun i u c hu hc=>?_⟩
  cases i with
  | zero=>simp at hu hc;subst hu;subst hc;exact h
  | succ i=>simp at hu
 cases h with
 | undef v=>exact absurd rfl hu
 | agg vs as hl h=>exact ⟨by simpa [Value.cells,AVal.cells] using hl,fun i u c hu hc=>h i u c (by simpa [Value.cells] using hu) (by simpa [AVal.cells] using hc)⟩
 | row k g a n c h=>exact gen (.row k g a n c h) rfl rfl
 | bool b=>exact gen (.bool b) rfl rfl
 | int k n hr=>exact gen (.int k n hr) rfl rfl
 | str l hl=>exact gen (.str l hl) rfl rfl
 | tup vs as hl h=>exact gen (.tup vs as hl h) rfl rfl
 | ptr b o cs h=>exact gen (.ptr b o cs h) rfl rfl
 | ref k off b h=>exact gen (.ref k off b h) rfl rfl
 | eref k g i sz off b n c h=>exact gen (.eref k g i sz off b n c h) rfl rfl
 | csl k off len sz b h hm=>exact gen (.csl k off len sz b h hm) rfl rfl
 | sub k g lo len sz b n c h hl hn hc hm=>exact gen (.sub k g lo len sz b n c h hl hn hc hm) rfl rfl
 | sub0 k g lo sz a a' n c h hl hc=>exact gen (.sub0 k g lo sz a a' n c h hl hc) rfl rfl
 | rowc k g c a n h hm=>exact gen (.rowc k g c a n h hm) rfl rfl
 | pre k g n c sz b len h hc hn hl hm=>exact gen (.pre k g n c sz b len h hc hn hl hm) rfl rfl
 | mref k b h=>exact gen (.mref k b h) rfl rfl
 | nilptr=>exact gen .nilptr rfl rfl
 | nilslice=>exact gen .nilslice rfl rfl
 | nilmap=>exact gen .nilmap rfl rfl
 | nilfunc=>exact gen .nilfunc rfl rfl
 | nilif=>exact gen .nilif rfl rfl
 | hsl a n c=>exact gen (.hsl a n c) rfl rfl
 | slnil sz t ht=>exact gen (.slnil sz t ht) rfl rfl
 | slemp sz t a cap ht=>exact gen (.slemp sz t a cap ht) rfl rfl
 | sl sz b o n cap xs t hn hc hm hz h ht=>exact gen (.sl sz b o n cap xs t hn hc hm hz h ht) rfl rfl
 | func fn fs cs fa ca hf hc h1 h2=>exact gen (.func fn fs cs fa ca hf hc h1 h2) rfl rfl
 | iface t v a h=>exact gen (.iface t v a h) rfl rfl
theorem Rep.one {v:Value} {a:AVal} (h:Rep M ob v a) (h1:one a=true):v.oneCell'=true:=by
 cases h<;>first | rfl | (simp [AW.one] at h1)
theorem jE {l:List AVal} (h:lS l=true):∀ (i:Nat) c,l[i]? =some c->one c=true:=by
 induction l with
 | nil=>intro i c hc;simp at hc
 | cons d r ih=>
  simp only [lS,Ad] at h
  intro i c hc
  cases i with
  | zero=>simp at hc;subst hc;exact h.1
  | succ i=>exact ih h.2 i c (by simpa using hc)
theorem kY {c:AVal} (h:AW.one c=true):c.cells=[c]:=by cases c<;>first | rfl | cases h
theorem Rep.cells_one {v:Value} {a:AVal} (h:Rep M ob v a) (h1:lS a.cells=true):v.cells.toList.length=a.cells.length/\(∀ u∈v.cells.toList,u.oneCell'=true)/\∀ (i:Nat) u c,v.cells.toList[i]? =some u->a.cells[i]? =some c->Rep M ob u c:=by
 have hu:a≠ .undef:=fun e=>by subst e;simp [AVal.cells,lS,AW.one] at h1
 obtain ⟨h2,h3⟩:=h.cells hu
 refine ⟨h2,fun u hm=>?_,h3⟩
 obtain ⟨i,hi⟩:=Cz hm
 have hlt:i<a.cells.length:=by rw [<-h2];exact (Ab.1 hi).1
 exact (h3 i u _ hi (Ac hlt)).one (jE h1 i _ (Ac hlt))
end
theorem cI {ob:Hs} {obs:List AObj} {k:Nat} {x:AObj} {hs:List Value} (h1:obs[k]? =some x) (h2:ob[k]? =some hs) {b:Nat}:aM ob obs k b↔x.owns=true/\b∈blk hs:=by
 constructor
 .rintro ⟨c,hs',e1,e2,e3,e4⟩
  rw [h1] at e1
  rw [h2] at e3
  cases e1
  cases e3
  exact ⟨e2,e4⟩
 .rintro ⟨h3,h4⟩
  exact ⟨x,hs,h1,h3,h2,h4⟩
theorem Mem.turn {M M':Imm} {ob:Hs} {obs:List AObj} {w w':World} (h:Mem M ob obs w) {k:Nat} {x x':AObj} {hs hs':List Value} (hx:obs[k]? =some x) (hh:ob[k]? =some hs) (hp:hs<+:hs') (hd:x= .dead->hs=[])
  (hM:∀ b o y,M b o y->M' b o y) (hnew:∀ b o y,M' b o y->M b o y\/(x.owns=true/\b∈blk hs)\/w.heap.size<=b)
  (himm:∀ b o y,M' b o y->∃ v,w'.cell? ⟨b,o,none⟩=some v/\v.oneCell'=true/\Rep M' [] v y)
  (heap:∀ b,b<w.heap.size->¬ (x.owns=true/\b∈blk hs)->w'.heap[b]? =w.heap[b]?)
  (hos:w'.os=w.os) (htape:w'.tape=w.tape) (hout:w'.output=w.output) (hsize:w.heap.size<=w'.heap.size)
  (hok:dD ob (ob.set k hs')->gD M' (ob.set k hs') w' hs' x') (hb:x'.owns=true->∀ b,b∈blk hs'->((x.owns=true/\b∈blk hs)\/w.heap.size<=b)/\b<w'.heap.size) (hxd:x'≠ .dead:=by intro h;cases h):
  Mem M' (ob.set k hs') (obs.set k x') w'/\Ext M ob obs w M' (ob.set k hs') (obs.set k x') w'/\cF ob obs (ob.set k hs') (obs.set k x'):=by
 have hko:k<obs.length:=(Ab.1 hx).1
 have hkb:k<ob.length:=(Ab.1 hh).1
 have hle:dD ob (ob.set k hs'):=fun i l hl=>by
  by_cases hi:i=k
  .subst hi
   rw [hh] at hl
   cases hl
   exact ⟨hs',Ax hkb,hp⟩
  .exact ⟨l,by rw [Bd (fun e=>hi e.symm)];exact hl,Cr _⟩
 have oth:∀ {i:Nat},i≠k->(obs.set k x')[i]? =obs[i]?/\(ob.set k hs')[i]? =ob[i]?:=fun {i} hi=>
  ⟨Bd (fun e=>hi e.symm),Bd (fun e=>hi e.symm)⟩
 have self1:(obs.set k x')[k]? =some x':=Ax hko
 have self2:(ob.set k hs')[k]? =some hs':=Ax hkb
 have alive':∀ {i b:Nat},aM (ob.set k hs') (obs.set k x') i b->(i≠k/\aM ob obs i b)\/(i=k/\((x.owns=true/\b∈blk hs)\/w.heap.size<=b)/\b<w'.heap.size):=fun {i b} ha=>by
  by_cases hi:i=k
  .subst hi
   have:=(cI self1 self2).1 ha
   exact .inr ⟨rfl,hb this.1 b this.2⟩
  .obtain ⟨c,l,e1,e2,e3,e4⟩:=ha
   rw [(oth hi).1] at e1
   rw [(oth hi).2] at e3
   exact .inl ⟨hi,c,l,e1,e2,e3,e4⟩
 have alk:∀ {b:Nat},x.owns=true/\b∈blk hs->aM ob obs k b:=fun ha=>(cI hx hh).2 ha
 refine ⟨⟨himm,by simp [h.len],fun i c hc=>?_,fun i b ha=>?_,fun i j b ha hb'=>?_⟩,⟨hM,fun b o y hy=>?_,hle,hos,htape,hout,hsize,fun b hb' hn=>heap b hb' fun ha=>hn k (alk ha),fun i b ha=>?_⟩,fun i l h1 h2=>⟨fun h3=>?_,fun h3 h4=>?_⟩⟩
 .by_cases hi:i=k
  .subst hi
   rw [self1] at hc
   cases hc
   exact ⟨hs',self2,hok hle⟩
  .rw [(oth hi).1] at hc
   obtain ⟨l,hl,ho⟩:=h.obj i c hc
   have hne:∀ b,c.owns=true->b∈blk l->¬ (x.owns=true/\b∈blk hs)/\b<w.heap.size:=fun b h1 h2=>by
    have ha:aM ob obs i b:=(cI hc hl).2 ⟨h1,h2⟩
    exact ⟨fun hk=>hi (h.inj i k b ha (alk hk)),h.lt i b ha⟩
   refine ⟨l,by rw [(oth hi).2];exact hl,ho.mono hM hle (fun b h1 h2 o hno y hy=>?_) (fun b c' h1 h2 hc'=>?_)⟩
   .obtain ⟨g1,g2⟩:=hne b h1 h2
    rcases hnew b o y hy with q | q | q
    .exact hno y q
    .exact g1 q
    .omega
   .obtain ⟨g1,g2⟩:=hne b h1 h2
    rw [heap b g2 g1]
    exact hc'
 .rcases alive' ha with ⟨_,ha⟩ | ⟨_,_,hlt⟩
  .exact Dn (h.lt i b ha) hsize
  .exact hlt
 .rcases alive' ha with ⟨_,ha⟩ | ⟨e1,ha,_⟩<;>rcases alive' hb' with ⟨_,hb2⟩ | ⟨e2,hb2,_⟩
  .exact h.inj i j b ha hb2
  .rcases hb2 with hb2 | hb2
   .rw [e2];exact h.inj i k b ha (alk hb2)
   .have:=h.lt i b ha;omega
  .rcases ha with ha | ha
   .rw [e1];exact h.inj k j b (alk ha) hb2
   .have:=h.lt j b hb2;omega
  .rw [e1,e2]
 .rcases hnew b o y hy with q | q | q
  .exact .inl q
  .exact .inr (.inr ⟨k,alk q⟩)
  .exact .inr (.inl q)
 .rcases alive' ha with ⟨_,ha⟩ | ⟨_,ha | ha,_⟩
  .exact .inl ⟨i,ha⟩
  .exact .inl ⟨k,alk ha⟩
  .exact .inr ha
 .have hi:i≠k:=fun e=>by
   subst e
   rw [hx] at h1
   rw [hh] at h2
   cases h1
   cases h2
   exact h3 (hd rfl)
  rw [(oth hi).1,(oth hi).2]
  exact ⟨h1,h2⟩
 .by_cases hi:i=k
  .subst hi
   rw [self1] at h4
   cases h4
   rw [self2]
   have:=hok hle
   exact absurd rfl hxd
  .rw [(oth hi).2]
   exact h3▸h2
theorem Mem.more {M M':Imm} {ob:Hs} {obs:List AObj} {w w':World} (h:Mem M ob obs w) (hM:∀ b o y,M b o y->M' b o y) (hnew:∀ b o y,M' b o y->M b o y\/w.heap.size<=b)
  (himm:∀ b o y,M' b o y->∃ v,w'.cell? ⟨b,o,none⟩=some v/\v.oneCell'=true/\Rep M' [] v y) (heap:∀ b,b<w.heap.size->w'.heap[b]? =w.heap[b]?)
  (hos:w'.os=w.os) (htape:w'.tape=w.tape) (hout:w'.output=w.output) (hsize:w.heap.size<=w'.heap.size):Mem M' ob obs w'/\Ext M ob obs w M' ob obs w':=by
 refine ⟨⟨himm,h.len,fun i c hc=>?_,fun i b ha=>Dn (h.lt i b ha) hsize,h.inj⟩,⟨hM,fun b o y hy=>?_,dD.refl _,hos,htape,hout,hsize,fun b hb _=>heap b hb,fun i b ha=>.inl ⟨i,ha⟩⟩⟩
 .obtain ⟨l,hl,ho⟩:=h.obj i c hc
  refine ⟨l,hl,ho.mono hM (dD.refl _) (fun b h1 h2 o hno y hy=>?_) (fun b c' h1 h2 hc'=>?_)⟩
  .have:=h.lt i b ((cI hc hl).2 ⟨h1,h2⟩)
   rcases hnew b o y hy with q | q
   .exact hno y q
   .omega
  .rw [heap b (h.lt i b ((cI hc hl).2 ⟨h1,h2⟩))]
   exact hc'
 .rcases hnew b o y hy with q | q
  .exact .inl q
  .exact .inr (.inl q)
theorem Mem.extend {M:Imm} {ob:Hs} {obs:List AObj} {w:World} (h:Mem M ob obs w) (n:Nat):
  Mem M (ob++Ai n []) (obs++Ai n .dead) w/\Ext M ob obs w M (ob++Ai n []) (obs++Ai n .dead) w/\cF ob obs (ob++Ai n []) (obs++Ai n .dead):=by
 have part:∀ {i:Nat} {c:AObj},(obs++Ai n .dead)[i]? =some c->(i<obs.length/\obs[i]? =some c)\/(obs.length<=i/\c= .dead/\i-obs.length<n):=fun {i c} hc=>by
  by_cases hi:i<obs.length
  .rw [Ah hi] at hc;exact .inl ⟨hi,hc⟩
  .rw [Aq (by omega),Dz] at hc
   split at hc
   .rename_i hlt
    cases hc;exact .inr ⟨by omega,rfl,hlt⟩
   .cases hc
 have left:∀ {i:Nat},i<obs.length->(ob++Ai n ([]:List Value))[i]? =ob[i]?:=fun {i} hi=>Ah (by rw [h.len];exact hi)
 have hle:dD ob (ob++Ai n []):=fun i l hl=>⟨l,by rw [Ah (Ab.1 hl).1];exact hl,Cr _⟩
 have alive':∀ {i b:Nat},aM (ob++Ai n []) (obs++Ai n .dead) i b->aM ob obs i b:=fun {i b} ⟨c,l,e1,e2,e3,e4⟩=>by
  rcases part e1 with ⟨hi,e1⟩ | ⟨_,rfl,_⟩
  .rw [left hi] at e3;exact ⟨c,l,e1,e2,e3,e4⟩
  .cases e2
 refine ⟨⟨h.imm,by simp [h.len],fun i c hc=>?_,fun i b ha=>h.lt i b (alive' ha),fun i j b ha hb=>h.inj i j b (alive' ha) (alive' hb)⟩,⟨fun _ _ _ h=>h,fun _ _ _ h=>.inl h,hle,rfl,rfl,rfl,Bc _,fun _ _ _=>rfl,fun i b ha=>.inl ⟨i,alive' ha⟩⟩,fun i l h1 h2=>?_⟩
 .rcases part hc with ⟨hi,hc⟩ | ⟨hi,rfl,hlt⟩
  .obtain ⟨l,hl,ho⟩:=h.obj i c hc
   exact ⟨l,by rw [left hi];exact hl,ho.mono (fun _ _ _ h=>h) hle (fun _ _ _ _ h=>h) (fun _ _ _ _ h=>h)⟩
  .refine ⟨[],?_,trivial⟩
   rw [Aq (by rw [h.len];exact hi),Dz,if_pos (by rw [h.len];exact hlt)]
 .have hi:=(Ab.1 h1).1
  exact ⟨fun _=>⟨by rw [Ah hi];exact h1,by rw [left hi];exact h2⟩,fun e _=>by rw [left hi];exact e▸h2⟩
theorem BF {sz:Nat} {xs:List AVal} {i j:Nat} {x c:AVal} (hx:xs[i]? =some x) (hc:x.cells[j]? =some c) (hz:x.cells.length=sz):aH sz xs (i*sz+j)=some c:=by
 have hj:j<sz:=by rw [<-hz];exact (Ab.1 hc).1
 have h1:(i*sz+j) / sz=i:=by
  rw [Dj,Ka (by omega),Nat.div_eq_of_lt hj,Dk]
 have h2:(i*sz+j) % sz=j:=by rw [Dj,Kb,Dx hj]
 simp [aH,h1,h2,hx,hc]
theorem fF {sz:Nat} {xs:List AVal} {o:Nat} {c:AVal} (h:aH sz xs o=some c):∃ x,xs[o / sz]? =some x/\x.cells[o % sz]? =some c:=by
 unfold aH at h
 cases hx:xs[o / sz]? with
 | none=>simp [hx] at h
 | some x=>exact ⟨x,rfl,by simpa [hx] using h⟩
theorem eA {sz:Nat} {xs:List AVal} {q:Nat} {c:AVal} (hs:0<sz) (h:aH sz xs q=some c):q<xs.length*sz:=by
 obtain ⟨x,hx,_⟩:=fF h
 exact (Gd hs).1 (Ab.1 hx).1
theorem tI {sz:Nat} {xs:List AVal} {q:Nat} (hs:0<sz) (hz:∀ x∈xs,x.cells.length=sz) (h:q<xs.length*sz):∃ c,aH sz xs q=some c:=by
 have hi:q / sz<xs.length:=(Gd hs).2 h
 have hx:xs[q / sz]? =some xs[q / sz]:=Ac hi
 have hj:q % sz<(xs[q / sz]).cells.length:=by rw [hz _ (Bn hi)];exact Iu _ hs
 exact ⟨_,by unfold aH;rw [hx];exact Ac hj⟩
theorem cE {sz:Nat} {xs ys:List AVal} {o:Nat} (hs:0<sz) (h:o<xs.length*sz):aH sz (xs++ys) o=aH sz xs o:=by
 have hi:o / sz<xs.length:=(Gd hs).2 h
 simp [aH,Ah hi]
theorem bY {sz:Nat} {xs ys:List AVal} {o:Nat} (hs:0<sz) (h:xs.length*sz<=o):aH sz (xs++ys) o=aH sz ys (o-xs.length*sz):=by
 have hi:xs.length<=o / sz:=(Nat.le_div_iff_mul_le hs).2 h
 obtain ⟨q,rfl⟩:=Nat.exists_eq_add_of_le h
 have h1:(xs.length*sz+q) / sz=xs.length+q / sz:=by rw [Dj,Ka hs]
 have h2:(xs.length*sz+q) % sz=q % sz:=by rw [Dj,Kb]
 simp only [aH,h1,h2,Ev]
 rw [Aq (by omega)]
 simp
theorem kE {sz n:Nat} {xs:List AVal} {q:Nat} (hs:0<sz) (h:q<n*sz):aH sz (xs.take n) q=aH sz xs q:=by
 have hi:q / sz<n:=(Gd hs).2 h
 simp [aH,Bj hi]
theorem uF {sz n:Nat} {xs:List AVal} {q:Nat} (hs:0<sz):aH sz (xs.drop n) q=aH sz xs (n*sz+q):=by
 have h1:(n*sz+q) / sz=n+q / sz:=by rw [Dj,Ka hs]
 have h2:(n*sz+q) % sz=q % sz:=by rw [Dj,Kb]
 simp [aH,h1,h2,Bu]
theorem zX {sz i:Nat} {xs ys:List AVal} (hs:0<sz) (hi:i+ys.length<=xs.length) {q:Nat} {c:AVal} (h:aH sz (xs.take i++ys++xs.drop (i+ys.length)) q=some c):
  (i*sz<=q/\q<i*sz+ys.length*sz/\aH sz ys (q-i*sz)=some c)\/((q<i*sz\/i*sz+ys.length*sz<=q)/\aH sz xs q=some c):=by
 have hl:(xs.take i).length=i:=by simp;omega
 have hl2:(xs.take i++ys).length=i+ys.length:=by simp;omega
 by_cases h1:q<i*sz
 .right
  refine ⟨.inl h1,?_⟩
  rw [Aj,cE hs (by rw [hl];exact h1),kE hs h1] at h
  exact h
 .by_cases h2:q<i*sz+ys.length*sz
  .left
   rw [cE hs (by rw [hl2,Cc];exact h2),bY hs (by rw [hl];omega),hl] at h
   exact ⟨by omega,h2,h⟩
  .right
   refine ⟨.inr (by omega),?_⟩
   rw [bY hs (by rw [hl2,Cc];omega),uF hs,hl2] at h
   have:(i+ys.length)*sz+(q-(i+ys.length)*sz)=q:=by rw [Cc];omega
   rwa [this] at h
theorem dX {α:Type} (cv vs:List α) (off:Nat) (h:off+vs.length<=cv.length):(cv.take off++vs++cv.drop (off+vs.length)).length=cv.length/\
  ∀ (i:Nat),(cv.take off++vs++cv.drop (off+vs.length))[i]? =if off<=i/\i<off+vs.length then vs[i-off]? else cv[i]?:=by
 refine ⟨by simp;omega,fun i=>?_⟩
 by_cases h1:i<off
 .rw [Aj,Ah (by simp;omega),if_neg (by omega),Bj h1]
 .by_cases h2:i<off+vs.length
  .rw [if_pos ⟨by omega,h2⟩,Aj,Aq (by simp;omega),Ah (by simp;omega)]
   congr 1
   simp;omega
  .rw [if_neg (by omega),Aq (by simp;omega),Bu]
   congr 1
   simp;omega
section
variable {M:Imm} {ob:Hs} {obs:List AObj} {w:World}
theorem dU {hs:List Value} {g:Nat} {v:Value} (hl:hs.length=g+1) (hv:hs[g]? =some v):blk hs=C5 v:=by
 unfold blk
 rw [Iy,hl,Iq,hv]
theorem oW {hs:List Value} {v:Value} {b:Nat} (h:blk hs=v.ownBlock.toList) (e:v.ownBlock=some b):b∈blk hs:=by rw [h,e];simp
theorem qY {hs:List Value} {v:Value} {b:Nat} (h:blk hs=v.ownBlock.toList) (e:b∈blk hs):v.ownBlock=some b:=by rw [h] at e;simpa using e
theorem dL {w:World} {e:TypeId} {sz n:Nat} {v:Value} {cv:List Value} (h:w.ownsRow 0 e sz v n cv):C5 v=v.ownBlock.toList:=by
 rcases h.2 with ⟨rfl,_⟩ | ⟨g,cap,cur,rfl,_⟩<;>rfl
theorem bT {k g:Nat} {hs:List Value} (h:ob[k]? =some hs):at' ob k g=hs[g]?:=by simp [at',h]
theorem Mem.rowOf (h:Mem M ob obs w) {k g sz:Nat} {e:TypeId} {xs:List AVal} (hx:obs[k]? =some (.row g sz e xs)):∃ hs v,ob[k]? =some hs/\hs.length=g+1/\hs[g]? =some v/\at' ob k g=some v/\cV M w v sz e xs/\blk hs=v.ownBlock.toList:=by
 obtain ⟨hs,h1,h2,v,h3,h4⟩:=h.obj k _ hx
 refine ⟨hs,v,h1,h2,h3,(bT h1).trans h3,h4,(dU h2 h3).trans ?_⟩
 obtain ⟨cv,ho,_⟩:=h4
 exact dL ho
theorem Mem.rowTurn (h:Mem M ob obs w) {k g sz:Nat} {e:TypeId} {xs:List AVal} (hx:obs[k]? =some (.row g sz e xs)) {hs:List Value} {v:Value} (hh:ob[k]? =some hs) (hv:hs[g]? =some v)
  {w':World} {g':Nat} {hs':List Value} {v':Value} {xs':List AVal} (hp:hs<+:hs') (hl':hs'.length=g'+1) (hv':hs'[g']? =some v') (hr:cV M w' v' sz e xs')
  (heap:∀ b,b<w.heap.size->v.ownBlock≠some b->w'.heap[b]? =w.heap[b]?) (hos:w'.os=w.os) (htape:w'.tape=w.tape) (hout:w'.output=w.output) (hsize:w.heap.size<=w'.heap.size)
  (hb:∀ b,v'.ownBlock=some b->v.ownBlock=some b\/w.heap.size<=b):
  Mem M (ob.set k hs') (obs.set k (.row g' sz e xs')) w'/\Ext M ob obs w M (ob.set k hs') (obs.set k (.row g' sz e xs')) w'/\cF ob obs (ob.set k hs') (obs.set k (.row g' sz e xs')):=by
 obtain ⟨hs0,v0,e1,e2,e3,_,hrow,hblk⟩:=h.rowOf hx
 rw [hh] at e1
 cases e1
 rw [hv] at e3
 cases e3
 obtain ⟨cv,hown,_,_,_,hno,_⟩:=hrow
 obtain ⟨cv',hown',_⟩:=id hr
 have hnoM:∀ b o y,M b o y->v.ownBlock≠some b:=fun b o y hy e=>hno b e o y hy
 refine h.turn hx hh hp (fun e=>by cases e) (fun _ _ _ h=>h) (fun _ _ _ h=>.inl h) (fun b o y hy=>?_) (fun b hlt hn=>heap b hlt fun e=>hn ⟨rfl,oW hblk e⟩) hos htape hout hsize (fun _=>?_) (fun _ b hb'=>?_)
 .obtain ⟨u,hu,h1,h2⟩:=h.imm b o y hy
  exact ⟨u,(Cg (w:=w) (a:=⟨b,o,none⟩) (heap b (Cj w _ hu) (hnoM b o y hy))).trans hu,h1,h2⟩
 .exact ⟨hl',v',hv',hr⟩
 .have hb':=qY ((dU hl' hv').trans (dL hown')) hb'
  refine ⟨?_,(hown'.lt b hb').2⟩
  rcases hb b hb' with q | q
  .exact .inl ⟨rfl,oW hblk q⟩
  .exact .inr q
theorem eY {α:Type} {l:List α} {k:Nat} {x:α} (h:l[k]? =some x):l.set k x=l:=by
 apply Ee
 intro i
 by_cases hi:i=k
 .subst hi
  rw [Ax (Ab.1 h).1,h]
 .rw [Bd (fun e=>hi e.symm)]
theorem cV.write {v:Value} {sz:Nat} {e:TypeId} {xs xs':List AVal} (h:cV M w v sz e xs) {b n cap:Nat} (hv:v= .slice (some ⟨b,0,none⟩) n cap) (hs:0<sz) {p:Nat} {news:List Value} (hp:p+news.length<=xs.length*sz)
  (h1:∀ u∈news,u.oneCell'=true) (hl:xs'.length=xs.length) (hz:∀ x∈xs',x.cells.length=sz)
  (hc:∀ q c,aH sz xs' q=some c->(p<=q/\q<p+news.length/\∃ u,news[q-p]? =some u/\Rep M [] u c)\/((q<p\/p+news.length<=q)/\aH sz xs q=some c)):
  ∃ cur,w.heap[b]? =some (.cells cur e (0,0))/\p+news.length<=cur.size/\cV M (w.setRow b (cur.toList.take p++news++cur.toList.drop (p+news.length)).toArray) v sz e xs':=by
 subst hv
 obtain ⟨cv,⟨g1,g2⟩,h3,h4,h5,h6,h7⟩:=h
 rcases g2 with ⟨e1,_⟩ | ⟨g,cap',cur,e1,_,e3,e4,e5,e6,e7⟩
 .cases e1
 cases e1
 have hsz:xs.length*sz<=cur.size:=by rw [e6];exact Bp _ e4
 have hfit:p+news.length<=cur.toList.length:=by rw [Eg];exact Cx hp hsz
 obtain ⟨q1,q2⟩:=dX cur.toList news p hfit
 have hcv:∀ q,q<xs.length*sz->cv[q]? =cur.toList[q]?:=fun q hq=>by rw [<-e7,Bj hq]
 refine ⟨cur,e3,by rw [Eg] at hfit;exact hfit,(cur.toList.take p++news++cur.toList.drop (p+news.length)).take (xs.length*sz),⟨by rw [hl,Cq,q1,Eg];exact Ei hsz,.inr ⟨b,cap,_,by rw [hl],Bm _,setRow_heap w b cur _ e _ e3,by rw [hl];exact e4,e5,?_,by rw [hl]⟩⟩,fun u hu=>?_,hz,fun q c hq=>?_,h6,fun b' e' cur' T fz hc' u hu=>?_⟩
 .rw [Fo,q1,Eg,e6]
 .obtain ⟨q,hq⟩:=Cz hu
  rw [En] at hq
  split at hq
  .rename_i hlt
   rw [q2] at hq
   split at hq
   .exact h1 u (Aw hq)
   .rw [<-hcv q hlt] at hq
    exact h3 u (Aw hq)
  .cases hq
 .have hlt:=eA hs hq
  rw [hl] at hlt
  rw [Bj hlt,q2]
  rcases hc q c hq with ⟨a1,a2,u,hu,hr⟩ | ⟨a1,a2⟩
  .rw [if_pos ⟨a1,a2⟩];exact ⟨u,hu,hr⟩
  .rw [if_neg (by omega),<-hcv q hlt]
   exact h5 q c a2
 .cases e'
  rw [setRow_heap w b cur _ e _ e3] at hc'
  cases hc'
  have hold:∀ u∈cur.toList,u.oneCell'=true:=h7 b rfl _ _ _ e3
  simp only [Ba] at hu
  rcases hu with (hu | hu) | hu
  .exact hold u (Ch hu)
  .exact h1 u hu
  .exact hold u (Dp hu)
theorem Mem.rowWrite {P:Program} (h:Mem M ob obs w) {k g sz:Nat} {e:TypeId} {xs xs':List AVal} (hx:obs[k]? =some (.row g sz e xs)) {b n cap:Nat} (hv:at' ob k g=some (.slice (some ⟨b,0,none⟩) n cap)) (hs:0<sz)
  {p:Nat} {news:List Value} (hp:p+news.length<=xs.length*sz) (h1:∀ u∈news,u.oneCell'=true) (hl:xs'.length=xs.length) (hz:∀ x∈xs',x.cells.length=sz)
  (hc:∀ q c,aH sz xs' q=some c->(p<=q/\q<p+news.length/\∃ u,news[q-p]? =some u/\Rep M [] u c)\/((q<p\/p+news.length<=q)/\aH sz xs q=some c)):
  ∃ w',(storeCells ⟨b,p,none⟩ news).run P w= .ok () w'/\Mem M ob (obs.set k (.row g sz e xs')) w'/\Ext M ob obs w M ob (obs.set k (.row g sz e xs')) w'/\cF ob obs ob (obs.set k (.row g sz e xs')):=by
 obtain ⟨hs0,v,e1,e2,e3,e4,hrow,hblk⟩:=h.rowOf hx
 rw [hv] at e4
 cases e4
 obtain ⟨cur,c1,c2,c3⟩:=hrow.write rfl hs hp h1 hl hz hc
 have hst:=run_storeCells_at P b p e news 0 cur w c1 (by simpa using c2) h1
 simp only [Dk] at hst
 refine ⟨_,hst,?_⟩
 have:=h.rowTurn (hs':=hs0) hx e1 e3 (Cr _) e2 e3 c3 (fun b' _ hn=>setRow_other w b b' _ (fun e=>hn (by simp [Fh,e]))) rfl rfl rfl (by simp [Ii]) (fun b' hb'=>.inl hb')
 rw [eY e1] at this
 exact this
end
theorem bX (w:World) (o:Obj):(w.alloc o).heap.size=w.heap.size+1:=by
 show (w.heap.push o).size=_
 simp
structure Grown (M:Imm) (w w':World) (sz:Nat) (e:TypeId) (v:Value) (xs:List AVal):Prop where
 own:∃ cv,w'.ownsRow 0 e sz v xs.length cv/\(∀ u∈cv,u.oneCell'=true)/\∀ (q:Nat) c,aH sz xs q=some c->∃ u,cv[q]? =some u/\Rep M [] u c
 pos:0<sz
 hz:∀ x∈xs,x.cells.length=sz
 blk:∀ b,v.ownBlock=some b->w.heap.size<=b
 heap:∀ b,b<w.heap.size->w'.heap[b]? =w.heap[b]?
 os:w'.os=w.os
 tape:w'.tape=w.tape
 output:w'.output=w.output
 size:w.heap.size<=w'.heap.size
 oneb:IW w' v
section
variable {M:Imm} {ob:Hs} {obs:List AObj} {w w':World} {sz:Nat} {e:TypeId} {v:Value} {xs:List AVal}
theorem eQ {w:World} {n:Nat} {cv:List Value} (h:w.ownsRow 0 e sz v n cv) {b:Nat} (hb:v.ownBlock=some b) {q:Nat} {u:Value} (hu:cv[q]? =some u):w.cell? ⟨b,q,none⟩=some u:=by
 have:=h.cells (g:=b) hb q u hu
 rwa [bH,Bk] at this
theorem cW {w:World} {n:Nat} {cv:List Value} (h:w.ownsRow 0 e sz v n cv):(v= .slice none 0 0/\n=0)\/∃ b cap,v= .slice (some ⟨b,0,none⟩) n cap/\v.ownBlock=some b/\n<=cap/\cap<=maxLen:=by
 rcases h.2 with h | ⟨g,cap,cur,e1,_,_,e4,e5,_⟩
 .exact .inl h
 .exact .inr ⟨g,cap,e1,by rw [e1];rfl,e4,e5⟩
def fA (M:Imm) (v:Value) (sz:Nat) (xs:List AVal):Imm:=fun b o x=>M b o x\/(v.ownBlock=some b/\aH sz xs o=some x)
theorem hD {w:World} {cv:List Value} (h:w.ownsRow 0 e sz v xs.length cv) (hz:∀ x∈xs,x.cells.length=sz) {t:Tk} (ht:pC ob v t):Rep (fA M v sz xs) ob v (.slice sz xs t):=by
 rcases cW h with ⟨rfl,hn⟩ | ⟨b,cap,e1,e2,e3,e4⟩
 .have:xs=[]:=Au hn
  subst this
  exact .slnil sz t ht
 .subst e1
  refine .sl sz b 0 xs.length cap xs t rfl e3 (by simp only [maxLen] at e4;omega) hz (fun i j x c hx hc=>.inr ⟨e2,?_⟩) ht
  rw [Bk]
  exact BF hx hc (hz x (Aw hx))
theorem Grown.imm (g:Grown M w w' sz e v xs) (h:Mem M ob obs w):∀ b o y,fA M v sz xs b o y->∃ u,w'.cell? ⟨b,o,none⟩=some u/\u.oneCell'=true/\Rep (fA M v sz xs) [] u y:=by
 obtain ⟨cv,h1,h2,h3⟩:=g.own
 intro b o y hy
 rcases hy with hy | ⟨hb,hy⟩
 .obtain ⟨u,hu,h4,h5⟩:=h.imm b o y hy
  exact ⟨u,(Cg (w:=w) (a:=⟨b,o,none⟩) (g.heap b (Cj w _ hu))).trans hu,h4,h5.monoM fun _ _ _ h=>.inl h⟩
 .obtain ⟨u,hu,hr⟩:=h3 o y hy
  exact ⟨u,eQ h1 hb hu,h2 u (Aw hu),hr.monoM fun _ _ _ h=>.inl h⟩
theorem Grown.more (g:Grown M w w' sz e v xs) (h:Mem M ob obs w):Mem (fA M v sz xs) ob obs w'/\Ext M ob obs w (fA M v sz xs) ob obs w':=
 h.more (fun _ _ _ h=>.inl h) (fun b o y hy=>by
  rcases hy with hy | ⟨hb,_⟩
  .exact .inl hy
  .exact .inr (g.blk b hb)) (g.imm h) g.heap g.os g.tape g.output g.size
theorem Grown.row (g:Grown M w w' sz e v xs) (h:Mem M ob obs w) {k:Nat} (h1:obs[k]? =some .dead) (h2:ob[k]? =some []):
  Mem M (ob.set k [v]) (obs.set k (.row 0 sz e xs)) w'/\Ext M ob obs w M (ob.set k [v]) (obs.set k (.row 0 sz e xs)) w'/\cF ob obs (ob.set k [v]) (obs.set k (.row 0 sz e xs)):=by
 obtain ⟨cv,o1,o2,o3⟩:=g.own
 refine h.turn h1 h2 ⟨[v],rfl⟩ (fun _=>rfl) (fun _ _ _ h=>h) (fun _ _ _ h=>.inl h) (fun b o y hy=>?_) (fun b hb _=>g.heap b hb) g.os g.tape g.output g.size (fun _=>⟨rfl,v,rfl,cv,o1,o2,g.hz,o3,fun b hb o=>h.noImm (g.blk b hb) o,g.oneb⟩) (fun _ b hb=>?_)
 .obtain ⟨u,hu,h4,h5⟩:=h.imm b o y hy
  exact ⟨u,(Cg (w:=w) (a:=⟨b,o,none⟩) (g.heap b (Cj w _ hu))).trans hu,h4,h5⟩
 .have hb':v.ownBlock=some b:=qY (hs:=[v]) (dL o1) hb
  exact ⟨.inr (g.blk b hb'),(o1.lt b hb').2⟩
theorem Grown.tail (g:Grown M w w' sz e v xs) (h:Mem M ob obs w) {k:Nat} (h1:obs[k]? =some .dead) (h2:ob[k]? =some []):
  Mem (fA M v sz xs) (ob.set k [v]) (obs.set k (.tail 0 sz e)) w'/\Ext M ob obs w (fA M v sz xs) (ob.set k [v]) (obs.set k (.tail 0 sz e)) w'/\cF ob obs (ob.set k [v]) (obs.set k (.tail 0 sz e))/\
   Rep (fA M v sz xs) (ob.set k [v]) v (.slice sz xs (.own k 0)):=by
 obtain ⟨cv,o1,o2,o3⟩:=g.own
 have hk:k<ob.length:=(Ab.1 h2).1
 have main:=h.turn (M':=fA M v sz xs) (w':=w') (x':=.tail 0 sz e) (hs':=[v]) h1 h2 ⟨[v],rfl⟩ (fun _=>rfl) (fun _ _ _ h=>.inl h) (fun b o y hy=>by
  rcases hy with hy | ⟨hb,_⟩
  .exact .inl hy
  .exact .inr (.inr (g.blk b hb))) (g.imm h) (fun b hb _=>g.heap b hb) g.os g.tape g.output g.size
  (fun _=>⟨rfl,v,rfl,_,cv,o1,fun b hb o ho y hy=>by
   rcases hy with hy | ⟨_,hy⟩
   .exact h.noImm (g.blk b hb) o y hy
   .have:=eA g.pos hy;omega⟩)
  (fun _ b hb=>by
   have hb':v.ownBlock=some b:=qY (hs:=[v]) (dL o1) hb
   exact ⟨.inr (g.blk b hb'),(o1.lt b hb').2⟩)
 refine ⟨main.1,main.2.1,main.2.2,hD o1 g.hz ?_⟩
 show at' _ k 0=some v
 rw [bT (Ax hk)]
 rfl
end
theorem wZ (w:World):IW w (.slice none 0 0):=fun b hb=>by cases hb
theorem gS {z:Array Value} {n:Nat} (hz:z.toList.all (·.oneCell')=true):∀ u∈(Bz z n).toList,u.oneCell'=true:=by
 intro u hu
 simp only [Bz,Gn,Cy] at hu
 obtain ⟨i,hi,rfl⟩:=hu
 have hpos:0<z.size:=by
  refine Nat.pos_of_ne_zero fun e=>?_
  have:i<n*z.size:=by simpa using hi
  rw [e] at this
  simp at this
 have hlt:i % z.size<z.size:=Iu _ hpos
 rw [getElem!_pos z _ hlt]
 exact Cl.1 hz _ (by simp)
theorem lT {w:World} {cs:List Value} {n c:Nat} {T:TypeId} (h:∀ u∈cs,u.oneCell'=true):IW (w.alloc (.cells cs.toArray T)) (.slice (some ⟨w.heap.size,0,none⟩) n c):=by
 intro b hb cur T' fz hc u hu
 cases hb
 rw [heap_alloc_new w _] at hc
 cases hc
 exact h u (by simpa using hu)
theorem fP {P:Program} (w:World) (t tx ty e:TypeId) (i:TypeInfo) (z:Value) (ht:P.underlying t=some (.slice e)) (hi:P.info? e=some i) (hz:i.zero=some z) (hz1:z.cells.toList.all (·.oneCell')=true)
  (hzs:z.cells.size=i.size) (v:Value) (n:Nat) (olds:List Value) (hown:w.ownsRow 0 e i.size v n olds) (h1o:∀ u∈olds,u.oneCell'=true) (x:Value) (m:Nat) (news:List Value) (hs:Src P i.size tx x m news w)
  (h63:n+m<=maxLen) (hbytes:(n+m)*i.bytes<=140737488355328):
  ∃ v' w',(Cd #[t,tx] ty #[v,x]).run P w= .ok v' w'/\w'.ownsRow 0 e i.size v' (n+m) (olds++news)/\w'.os=w.os/\w'.tape=w.tape/\w'.output=w.output/\w.heap.size<=w'.heap.size/\
   ((v'.ownBlock=v.ownBlock/\∀ b,v.ownBlock≠some b->w'.heap[b]? =w.heap[b]?)\/(v'.ownBlock=some w.heap.size/\∀ b,b<w.heap.size->w'.heap[b]? =w.heap[b]?))/\(IW w v->IW w' v'):=by
 have hlen:(olds++news).length=(n+m)*i.size:=by rw [Ag,hown.1,hs.newsLen,Cc]
 have h63':n+m<=4611686018427387904\/True:=.inr trivial
 have grown:∀ (old:Nat),old<n+m->
   (w.drew.alloc (.cells ((olds++news).toArray++Bz z.cells (grownCap w (n+m) old e-(n+m))) e)).ownsRow 0 e i.size
    (.slice (some ⟨w.heap.size,0,none⟩) (n+m) (grownCap w (n+m) old e)) (n+m) (olds++news):=by
  intro old ho
  have hge:=grownCap_ge w (n+m) old e
  have hcm:grownCap w (n+m) old e<=maxLen:=grownCap_le_maxLen w (n+m) old e h63
  refine ⟨hlen,.inr ⟨w.heap.size,_,_,rfl,Bm _,heap_alloc_new w.drew _,hge,hcm,?_,?_⟩⟩
  .simp only [Array.size_append,Fo,size_zeroCells,hzs,hlen,<-Cc]
   congr 1
   omega
  .simp only [Kn]
   rw [<-hlen]
   exact Gz
 have grownB:∀ (k n' c':Nat),IW (w.drew.alloc (.cells ((olds++news).toArray++Bz z.cells k) e)) (.slice (some ⟨w.heap.size,0,none⟩) n' c'):=by
  intro k n' c'
  have:(olds++news).toArray++Bz z.cells k=((olds++news)++(Bz z.cells k).toList).toArray:=by apply Cp;simp
  rw [this]
  refine lT (w:=w.drew) fun u hu=>?_
  rcases Ba.1 hu with hu | hu
  .rcases Ba.1 hu with hu | hu
   .exact h1o u hu
   .exact hs.one u hu
  .exact gS hz1 u hu
 have hsz:∀ o,w.heap.size<=(w.drew.alloc o).heap.size:=fun o=>by rw [bX];show w.heap.size<=w.heap.size+1;omega
 have hsm:((n+m:Nat):Int)<=9223372036854775807:=by simp only [maxLen] at h63;omega
 rcases hown.2 with ⟨rfl,rfl⟩ | ⟨g,cap,cur,rfl,_,hg,hnc,hcm,hcs,htake⟩
 .have hx:olds=[]:=Au (by simpa using hown.1)
  subst hx
  by_cases hm:m=0
  .subst hm
   have hn:news=[]:=Au (by simpa using hs.newsLen)
   subst hn
   refine ⟨.slice none 0 0,w,?_,Gg w 0 e i.size,rfl,rfl,rfl,Bc _,.inl ⟨rfl,fun _ _=>rfl⟩,fun h=>h⟩
   rcases hs.kind with ⟨e',hk⟩ | hk<;>simp [Cd,run_underlying ht,run_underlying hk,sizeOf,typeInfo,hi,hs.len,hs.cells]
  .have hr:=run_append_grow_src (P:=P) w t tx ty e i z ht hi hz none 0 0 [] (by simp [Bv]) x m news hs (by omega) hsm (growslice_fits (by omega) hbytes)
   exact ⟨_,_,hr,grown 0 (by omega),rfl,rfl,rfl,hsz _,.inr ⟨rfl,fun b hb=>heap_alloc_old w.drew _ hb⟩,fun _=>grownB _ _ _⟩
 .by_cases hroom:n+m<=cap
  .have hfit:n*i.size+news.length<=cur.size:=by rw [hs.newsLen,hcs,<-Cc];exact Bp _ hroom
   have hst:=run_storeCells_at P g (n*i.size) e news 0 cur w hg (by simpa using hfit) hs.one
   simp only [Dk] at hst
   have had:(⟨g,0,none⟩:Addr).add (n*i.size)=⟨g,n*i.size,none⟩:=by rw [bH,Bk]
   have hr:(Cd #[t,tx] ty #[.slice (some ⟨g,0,none⟩) n cap,x]).run P w= .ok (.slice (some ⟨g,0,none⟩) (n+m) cap) (w.setRow g (cur.toList.take (n*i.size)++news++cur.toList.drop (n*i.size+news.length)).toArray):=by
    rcases hs.kind with ⟨e',hk⟩ | hk<;>simp [Cd,run_underlying ht,run_underlying hk,sizeOf,typeInfo,hi,hs.len,hroom,hs.cells,had,hst]
   refine ⟨_,_,hr,⟨hlen,.inr ⟨g,cap,_,rfl,Bm _,setRow_heap w g cur _ e _ hg,hroom,hcm,?_,?_⟩⟩,rfl,rfl,rfl,by simp [Ii],.inl ⟨rfl,fun b hb=>setRow_other w g b _ (fun e=>hb (by simp [Fh,e]))⟩,fun hob b hb cur' T' fz hc u hu=>?_⟩
   .simp only [Fo,Ag,Cq,Dy,Eg]
    omega
   .rw [htake,<-hlen]
    exact Gz
   .cases hb
    rw [setRow_heap w g cur _ e _ hg] at hc
    cases hc
    have hold:∀ u∈cur.toList,u.oneCell'=true:=hob g rfl _ _ _ hg
    simp only [Ba] at hu
    rcases hu with (hu | hu) | hu
    .exact hold u (Ch hu)
    .exact hs.one u hu
    .exact hold u (Dp hu)
  .have holds:∀ (j:Nat) u,olds[j]? =some u->w.cell? ((⟨g,0,none⟩:Addr).add j)=some u:=hown.cells (g:=g) rfl
   have hfc:(Bv i.size n (.slice (some ⟨g,0,none⟩) n cap)).run P w.drew= .ok olds.toArray w.drew:=run_firstCells_some w.drew i.size n ⟨g,0,none⟩ n cap olds hown.1 (by simpa using holds)
   have hr:=run_append_grow_src (P:=P) w t tx ty e i z ht hi hz (some ⟨g,0,none⟩) n cap olds hfc x m news hs (by omega) hsm (growslice_fits (by omega) hbytes)
   exact ⟨_,_,hr,grown cap (by omega),rfl,rfl,rfl,hsz _,.inr ⟨rfl,fun b hb=>heap_alloc_old w.drew _ hb⟩,fun _=>grownB _ _ _⟩
section
variable {M:Imm} {ob:Hs} {obs:List AObj} {w:World}
structure SrcA (P:Program) (M:Imm) (w:World) (sz:Nat) (tx:TypeId) (x:Value) (ys:List AVal):Prop where
 src:∃ news,Src P sz tx x ys.length news w/\∀ (q:Nat) c,aH sz ys q=some c->∃ u,news[q]? =some u/\Rep M [] u c
 hz:∀ y∈ys,y.cells.length=sz
 pre:∀ m,m<=ys.length->∃ news:List Value,(Bv sz m x).run P w= .ok news.toArray w/\news.length=m*sz/\(∀ u∈news,u.oneCell'=true)/\∀ (q:Nat) c,q<m*sz->aH sz ys q=some c->∃ u,news[q]? =some u/\Rep M [] u c
theorem Mem.appendRow {P:Program} (h:Mem M ob obs w) {t tx ty e:TypeId} {i:TypeInfo} {z:Value} (ht:P.underlying t=some (.slice e)) (hi:P.info? e=some i) (hz:i.zero=some z) (hz1:z.cells.toList.all (·.oneCell')=true)
  (hzs:z.cells.size=i.size) (hpos:0<i.size) {k g:Nat} {xs ys:List AVal} (hx:obs[k]? =some (.row g i.size e xs)) {v x:Value} (hv:at' ob k g=some v) (hs:SrcA P M w i.size tx x ys)
  (h63:xs.length+ys.length<=maxLen) (hbytes:(xs.length+ys.length)*i.bytes<=140737488355328):
  ∃ v' w' ob',(Cd #[t,tx] ty #[v,x]).run P w= .ok v' w'/\Mem M ob' (obs.set k (.row (g+1) i.size e (xs++ys))) w'/\Ext M ob obs w M ob' (obs.set k (.row (g+1) i.size e (xs++ys))) w'/\
   cF ob obs ob' (obs.set k (.row (g+1) i.size e (xs++ys)))/\Rep M ob' v' (.row k (g+1)):=by
 obtain ⟨hs0,v0,e1,e2,e3,e4,hrow,hblk⟩:=h.rowOf hx
 rw [hv] at e4
 cases e4
 obtain ⟨cv,o1,o2,o3,o4,o5,o6⟩:=hrow
 obtain ⟨⟨news,s1,s2⟩,s3⟩:=hs
 obtain ⟨v',w',hr,hown',hos,htape,hout,hsize,hcase,honeb⟩:=fP (P:=P) w t tx ty e i z ht hi hz hz1 hzs v xs.length cv o1 o2 x ys.length news s1 h63 hbytes
 have hpick:∀ b,v'.ownBlock=some b->v.ownBlock=some b\/w.heap.size<=b:=fun b hb=>by
  rcases hcase with ⟨q,_⟩ | ⟨q,_⟩
  .exact .inl (q▸hb)
  .rw [q] at hb;cases hb;exact .inr (Bc _)
 have hrow':cV M w' v' i.size e (xs++ys):=by
  refine ⟨cv++news,by rw [Ag];exact hown',fun u hu=>?_,fun y hy=>?_,fun q c hq=>?_,fun b hb o=>?_,honeb o6⟩
  .rcases Ba.1 hu with hu | hu
   .exact o2 u hu
   .exact s1.one u hu
  .rcases Ba.1 hy with hy | hy
   .exact o3 y hy
   .exact s3 y hy
  .by_cases hlt:q<xs.length*i.size
   .rw [cE hpos hlt] at hq
    rw [Ah (by rw [o1.1];exact hlt)]
    exact o4 q c hq
   .rw [bY hpos (by omega)] at hq
    rw [Aq (by rw [o1.1];omega),o1.1]
    exact s2 _ c hq
  .rcases hpick b hb with q | q
   .exact o5 b q o
   .exact h.noImm q o
 have hl':(hs0++[v']).length=g+1+1:=by simp [e2]
 have hg':(hs0++[v'])[g+1]? =some v':=by rw [<-e2];simp
 have:=h.rowTurn (hs':=hs0++[v']) hx e1 e3 ⟨[v'],rfl⟩ hl' hg' hrow' (fun b hlt hn=>by
  rcases hcase with ⟨_,q⟩ | ⟨_,q⟩
  .exact q b hn
  .exact q b hlt) hos htape hout hsize hpick
 refine ⟨v',w',_,hr,this.1,this.2.1,this.2.2,?_⟩
 have hk:k<ob.length:=(Ab.1 e1).1
 have hat:at' (ob.set k (hs0++[v'])) k (g+1)=some v':=by rw [bT (Ax hk)];exact hg'
 rcases cW hown' with ⟨q,_⟩ | ⟨b,cap,q,_⟩
 .rw [q] at hat⊢;exact .row _ _ _ _ _ hat
 .rw [q] at hat⊢;exact .row _ _ _ _ _ hat
theorem tW {v:Value} {sz:Nat} {xs:List AVal} {e:TypeId} {n:Nat} {cv:List Value} (hv:Rep M ob v (.slice sz xs .no)) (ho:w.ownsRow 0 e sz v n cv):n=xs.length:=by
 obtain ⟨a,c,rfl,h1,_⟩:=hv.slice_inv
 rcases cW ho with ⟨q,hn⟩ | ⟨b,cap,q,_⟩
 .injection q with _ q2 _;omega
 .injection q with _ q2 _;exact q2.symm
theorem Mem.appendTail {P:Program} (h:Mem M ob obs w) {t tx ty e:TypeId} {i:TypeInfo} {z:Value} (ht:P.underlying t=some (.slice e)) (hi:P.info? e=some i) (hz:i.zero=some z) (hz1:z.cells.toList.all (·.oneCell')=true)
  (hzs:z.cells.size=i.size) (hpos:0<i.size) {k g:Nat} {xs ys:List AVal} (hx:obs[k]? =some (.tail g i.size e)) {v x:Value} (hv:Rep M ob v (.slice i.size xs (.own k g))) (hs:SrcA P M w i.size tx x ys)
  (h63:xs.length+ys.length<=maxLen) (hbytes:(xs.length+ys.length)*i.bytes<=140737488355328):
  ∃ v' w' M' ob',(Cd #[t,tx] ty #[v,x]).run P w= .ok v' w'/\Mem M' ob' (obs.set k (.tail (g+1) i.size e)) w'/\Ext M ob obs w M' ob' (obs.set k (.tail (g+1) i.size e)) w'/\
   cF ob obs ob' (obs.set k (.tail (g+1) i.size e))/\Rep M' ob' v' (.slice i.size (xs++ys) (.own k (g+1))):=by
 obtain ⟨hvr,hvt⟩:=hv.untok
 have hvt':at' ob k g=some v:=hvt
 obtain ⟨hs0,e1,e2,v0,e3,n,cv,o1,o5⟩:=h.obj k _ hx
 have e4:hs0[g]? =some v:=by rw [<-bT e1];exact hvt'
 rw [e4] at e3
 cases e3
 have hn:=tW hvr o1
 subst hn
 obtain ⟨⟨news,s1,s2⟩,s3⟩:=hs
 -- the old row's cells
 have hold:(∀ x∈xs,x.cells.length=i.size)/\(∀ u∈cv,u.oneCell'=true)/\(∀ (q:Nat) c,aH i.size xs q=some c->∃ u,cv[q]? =some u/\Rep M [] u c)/\∀ b,v.ownBlock=some b->b<w.heap.size/\∀ (q:Nat) u,cv[q]? =some u->w.cell? ⟨b,q,none⟩=some u:=by
  have hcell:∀ b,v.ownBlock=some b->∀ (q:Nat) u,cv[q]? =some u->w.cell? ⟨b,q,none⟩=some u:=fun b hb q u hu=>eQ o1 hb hu
  cases hvr with
  | slnil sz t' ht'=>
   have:cv=[]:=Au (by simpa using o1.1)
   subst this
   exact ⟨fun x hx=>by simp at hx,fun u hu=>by simp at hu,fun q c hq=>by simp [aH] at hq,fun b hb=>⟨(o1.lt b hb).2,hcell b hb⟩⟩
  | slemp sz t' a cap ht'=>
   have:cv=[]:=Au (by simpa using o1.1)
   subst this
   exact ⟨fun x hx=>by simp at hx,fun u hu=>by simp at hu,fun q c hq=>by simp [aH] at hq,fun b hb=>⟨(o1.lt b hb).2,hcell b hb⟩⟩
  | sl sz b o n cap xs t' hn hc hm hzx hM ht'=>
   have ho:o=0:=by
    rcases cW o1 with ⟨q,_⟩ | ⟨b',cap',q,_⟩
    .cases q
    .cases q;rfl
   subst ho
   have main:∀ q,q<xs.length*i.size->∃ u c,cv[q]? =some u/\aH i.size xs q=some c/\u.oneCell'=true/\Rep M [] u c:=fun q hq=>by
    obtain ⟨c,hc⟩:=tI hpos hzx hq
    obtain ⟨y,hy,hyc⟩:=fF hc
    have hMc:=hM _ _ y c hy hyc
    have hqq:0+q / i.size*i.size+q % i.size=q:=by rw [Bk,Dj];exact Ib q _
    rw [hqq] at hMc
    obtain ⟨u,hu,h1,h2⟩:=h.imm b q c hMc
    have hlt:q<cv.length:=by rw [o1.1];exact hq
    have:=hcell b rfl q _ (Ac hlt)
    rw [hu] at this
    cases this
    exact ⟨_,c,Ac hlt,hc,h1,h2⟩
   refine ⟨hzx,fun u hu=>?_,fun q c hq=>?_,fun b hb=>⟨(o1.lt b hb).2,hcell b hb⟩⟩
   .obtain ⟨q,hq⟩:=Cz hu
    obtain ⟨u',c,h1,_,h2,_⟩:=main q (by have:=(Ab.1 hq).1;rw [o1.1] at this;exact this)
    rw [hq] at h1
    cases h1
    exact h2
   .obtain ⟨u,c',h1,h2,_,h3⟩:=main q (eA hpos hq)
    rw [hq] at h2
    cases h2
    exact ⟨u,h1,h3⟩
 obtain ⟨hzx,o2,o4,o6⟩:=hold
 obtain ⟨v',w',hr,hown',hos,htape,hout,hsize,hcase,honeb⟩:=fP (P:=P) w t tx ty e i z ht hi hz hz1 hzs v xs.length cv o1 o2 x ys.length news s1 h63 hbytes
 have hpick:∀ b,v'.ownBlock=some b->v.ownBlock=some b\/w.heap.size<=b:=fun b hb=>by
  rcases hcase with ⟨q,_⟩ | ⟨q,_⟩
  .exact .inl (q▸hb)
  .rw [q] at hb;cases hb;exact .inr (Bc _)
 have hheap:∀ b,b<w.heap.size->v.ownBlock≠some b\/v'.ownBlock≠some b->w'.heap[b]? =w.heap[b]?:=fun b hb hne=>by
  rcases hcase with ⟨e1,h2⟩ | ⟨_,h2⟩
  .exact h2 b (by rcases hne with h | h;exact h;rw [<-e1];exact h)
  .exact h2 b hb
 have hzz:∀ y∈xs++ys,y.cells.length=i.size:=fun y hy=>by
  rcases Ba.1 hy with hy | hy
  .exact hzx y hy
  .exact s3 y hy
 have hcells:∀ (q:Nat) c,aH i.size (xs++ys) q=some c->∃ u,(cv++news)[q]? =some u/\u.oneCell'=true/\Rep M [] u c:=fun q c hq=>by
  by_cases hlt:q<xs.length*i.size
  .rw [cE hpos hlt] at hq
   obtain ⟨u,hu,hr⟩:=o4 q c hq
   exact ⟨u,by rw [Ah (by rw [o1.1];exact hlt)];exact hu,o2 u (Aw hu),hr⟩
  .rw [bY hpos (by omega)] at hq
   obtain ⟨u,hu,hr⟩:=s2 _ c hq
   exact ⟨u,by rw [Aq (by rw [o1.1];omega),o1.1];exact hu,s1.one u (Aw hu),hr⟩
 have hblk:blk hs0=v.ownBlock.toList:=(dU e2 e4).trans (dL o1)
 have hl':(hs0++[v']).length=g+1+1:=by simp [e2]
 have hg':(hs0++[v'])[g+1]? =some v':=by rw [<-e2];simp
 have hMo:∀ b o y,v'.ownBlock=some b->M b o y->v.ownBlock=some b/\o<xs.length*i.size:=fun b o y hb hy=>by
  rcases hpick b hb with q | q
  .refine ⟨q,?_⟩
   rcases Nat.lt_or_ge o (xs.length*i.size) with hlt | hge
   .exact hlt
   .exact absurd hy (o5 b q o hge y)
  .exact absurd hy (h.noImm q o y)
 have main:=h.turn (M':=fA M v' i.size (xs++ys)) (w':=w') (x':=.tail (g+1) i.size e) (hs':=hs0++[v']) hx e1 ⟨[v'],rfl⟩ (fun e=>by cases e) (fun _ _ _ h=>.inl h) (fun b o y hy=>by
   rcases hy with hy | ⟨hb,_⟩
   .exact .inl hy
   .rcases hpick b hb with q | q
    .exact .inr (.inl ⟨rfl,oW hblk q⟩)
    .exact .inr (.inr q)) (fun b o y hy=>by
   rcases hy with hy | ⟨hb,hy⟩
   .obtain ⟨u,hu,h1,h2⟩:=h.imm b o y hy
    refine ⟨u,?_,h1,h2.monoM fun _ _ _ h=>.inl h⟩
    by_cases hb:v'.ownBlock=some b
    .obtain ⟨q1,q2⟩:=hMo b o y hb hy
     have hlt:o<cv.length:=by rw [o1.1];exact q2
     have:=(o6 b q1).2 o _ (Ac hlt)
     rw [hu] at this
     cases this
     exact eQ hown' hb (by rw [Ah hlt];exact Ac hlt)
    .exact (Cg (w:=w) (a:=⟨b,o,none⟩) (hheap b (Cj w _ hu) (.inr hb))).trans hu
   .obtain ⟨u,hu,h1,h2⟩:=hcells o y hy
    exact ⟨u,eQ hown' hb hu,h1,h2.monoM fun _ _ _ h=>.inl h⟩)
  (fun b hlt hn=>hheap b hlt (.inl fun e=>hn ⟨rfl,oW hblk e⟩)) hos htape hout hsize
  (fun _=>⟨hl',v',hg',_,cv++news,hown',fun b hb o ho y hy=>by
   rcases hy with hy | ⟨_,hy⟩
   .have:=(hMo b o y hb hy).2
    rw [Cc] at ho;omega
   .have:=eA hpos hy
    rw [Ag] at this;omega⟩)
  (fun _ b hb=>by
   have hb':v'.ownBlock=some b:=qY ((dU hl' hg').trans (dL hown')) hb
   refine ⟨?_,(hown'.lt b hb').2⟩
   rcases hpick b hb' with q | q
   .exact .inl ⟨rfl,oW hblk q⟩
   .exact .inr q)
 refine ⟨v',w',_,_,hr,main.1,main.2.1,main.2.2,hD (by rw [Ag];exact hown') hzz ?_⟩
 show at' _ k (g+1)=some v'
 rw [bT (Ax (Ab.1 e1).1)]
 exact hg'
theorem append_nil {P:Program} (h:Mem M ob obs w) {t tx ty e:TypeId} {i:TypeInfo} {z:Value} (ht:P.underlying t=some (.slice e)) (hi:P.info? e=some i) (hz:i.zero=some z) (hz1:z.cells.toList.all (·.oneCell')=true)
  (hzs:z.cells.size=i.size) (hpos:0<i.size) {ys:List AVal} {x:Value} (hs:SrcA P M w i.size tx x ys) (h63:ys.length<=maxLen) (hbytes:ys.length*i.bytes<=140737488355328):
  ∃ v' w',(Cd #[t,tx] ty #[.slice none 0 0,x]).run P w= .ok v' w'/\Grown M w w' i.size e v' ys:=by
 obtain ⟨⟨news,s1,s2⟩,s3⟩:=hs
 obtain ⟨v',w',hr,hown',hos,htape,hout,hsize,hcase,honeb⟩:=fP (P:=P) w t tx ty e i z ht hi hz hz1 hzs _ 0 [] (Gg w 0 e i.size) (by simp) x ys.length news s1 (by simpa using h63) (by simpa using hbytes)
 rw [Bk,Ez] at hown'
 refine ⟨v',w',hr,⟨news,hown',s1.one,s2⟩,hpos,s3,fun b hb=>?_,fun b hb=>?_,hos,htape,hout,hsize,honeb (wZ w)⟩
 .rcases hcase with ⟨q,_⟩ | ⟨q,_⟩
  .rw [q] at hb;cases hb
  .rw [q] at hb;cases hb;exact Bc _
 .rcases hcase with ⟨_,q⟩ | ⟨_,q⟩
  .exact q b (by simp [Fh])
  .exact q b hb
end
section
variable {M:Imm} {ob:Hs} {obs:List AObj} {w:World}
theorem Mem.sliceCells (h:Mem M ob obs w) {sz b o:Nat} {xs:List AVal} (hs:0<sz) (hz:∀ x∈xs,x.cells.length=sz)
  (hm:∀ (i j:Nat) x c,xs[i]? =some x->x.cells[j]? =some c->M b (o+i*sz+j) c):
  ∃ vs:List Value,vs.length=xs.length*sz/\(∀ (j:Nat) u,vs[j]? =some u->w.cell? ⟨b,o+j,none⟩=some u)/\(∀ u∈vs,u.oneCell'=true)/\
   ∀ (q:Nat) c,aH sz xs q=some c->∃ u,vs[q]? =some u/\Rep M [] u c:=by
 have key:∀ q,q<xs.length*sz->∃ u,w.cell? ⟨b,o+q,none⟩=some u/\u.oneCell'=true/\∀ c,aH sz xs q=some c->Rep M [] u c:=by
  intro q hq
  obtain ⟨c,hc⟩:=tI hs hz hq
  obtain ⟨x,hx,hxc⟩:=fF hc
  have he:o+q / sz*sz+q % sz=o+q:=by have:=Ib q sz;rw [Dj] at this;omega
  obtain ⟨v,hv,h1,hr⟩:=h.imm _ _ _ (hm _ _ _ _ hx hxc)
  rw [he] at hv
  exact ⟨v,hv,h1,fun c' hc'=>by rw [hc] at hc';cases hc';exact hr⟩
 refine ⟨(Dc (xs.length*sz)).map fun q=>(w.cell? ⟨b,o+q,none⟩).getD undef,by simp,fun j u hu=>?_,fun u hu=>?_,fun q c hq=>?_⟩
 .simp only [Bb] at hu
  by_cases hj:j<xs.length*sz
  .obtain ⟨v,hv,_⟩:=key j hj
   simp [Cm hj,hv] at hu
   rw [hv,hu]
  .rw [Bf (by simp;omega)] at hu
   simp at hu
 .simp only [Cy,Gj] at hu
  obtain ⟨q,hq,rfl⟩:=hu
  obtain ⟨v,hv,h1,_⟩:=key q hq
  simp [hv,h1]
 .have hlt:=eA hs hq
  obtain ⟨v,hv,_,hr⟩:=key q hlt
  exact ⟨v,by simp only [Bb,Cm hlt,Kc,hv,Jo],hr c hq⟩
theorem wT {P:Program} {sz c m:Nat} {n:Nat} (hm:m<=0) {ys:List AVal}:∃ news:List Value,(Bv sz m (.slice none n c)).run P w= .ok news.toArray w/\news.length=m*sz/\(∀ u∈news,u.oneCell'=true)/\∀ (q:Nat) c,q<m*sz->aH sz ys q=some c->∃ u,news[q]? =some u/\Rep M [] u c:=by
 have:m=0:=by omega
 subst this
 exact ⟨[],rfl,by simp,fun u hu=>by simp at hu,fun q c hq=>by simp at hq⟩
theorem EA {P:Program} {sz n c m:Nat} {a:Addr} {ys:List AVal} {vs:List Value} (hm:m*sz<=vs.length) (hc:∀ (j:Nat) u,vs[j]? =some u->w.cell? (a.add j)=some u) (h1:∀ u∈vs,u.oneCell'=true)
  (hr:∀ (q:Nat) c,aH sz ys q=some c->∃ u,vs[q]? =some u/\Rep M [] u c):
  ∃ news:List Value,(Bv sz m (.slice (some a) n c)).run P w= .ok news.toArray w/\news.length=m*sz/\(∀ u∈news,u.oneCell'=true)/\∀ (q:Nat) c,q<m*sz->aH sz ys q=some c->∃ u,news[q]? =some u/\Rep M [] u c:=by
 have hl:(vs.take (m*sz)).length=m*sz:=by simp;omega
 have e:Bv sz m (.slice (some a) n c)=loadCells a (m*sz):=rfl
 have:=run_loadCells_list (P:=P) w a (vs.take (m*sz)) (fun j v hj=>by
  rw [En] at hj
  split at hj
  .exact hc j v hj
  .cases hj)
 rw [hl] at this
 refine ⟨vs.take (m*sz),by rw [e];exact this,hl,fun u hu=>h1 u (Ch hu),fun q c hq hcc=>?_⟩
 obtain ⟨u,hu,hru⟩:=hr q c hcc
 exact ⟨u,by rw [Bj hq];exact hu,hru⟩
theorem D9 {P:Program} {sz c m n:Nat} {a:Addr} (hm:m<=0) {ys:List AVal}:∃ news:List Value,(Bv sz m (.slice (some a) n c)).run P w= .ok news.toArray w/\news.length=m*sz/\(∀ u∈news,u.oneCell'=true)/\∀ (q:Nat) c,q<m*sz->aH sz ys q=some c->∃ u,news[q]? =some u/\Rep M [] u c:=by
 have:m=0:=by omega
 subst this
 have e:Bv sz 0 (.slice (some a) n c)=loadCells a (0*sz):=rfl
 have:=run_loadCells_list (P:=P) w a [] (fun j v hj=>by simp at hj)
 refine ⟨[],?_,by simp,fun u hu=>by simp at hu,fun q c hq=>by simp at hq⟩
 rw [e,Ij]
 exact this
theorem SrcA.ofSlice {P:Program} (h:Mem M ob obs w) {sz:Nat} (hs:0<sz) {tx e':TypeId} (hk:P.underlying tx=some (.slice e')) {x:Value} {ys:List AVal} {t:Tk} (hx:Rep M ob x (.slice sz ys t)):SrcA P M w sz tx x ys:=by
 cases hx with
 | slnil sz t ht=>exact ⟨⟨[],Src.ofNil w hk 0,fun q c hq=>by simp [aH] at hq⟩,fun y hy=>by simp at hy,fun m hm=>wT hm⟩
 | slemp sz t a cap ht=>exact ⟨⟨[],Src.ofSlice w hk a 0 cap [] (by simp) (fun j u hj=>by simp at hj) (fun u hu=>by simp at hu),fun q c hq=>by simp [aH] at hq⟩,fun y hy=>by simp at hy,fun m hm=>D9 hm⟩
 | sl sz b o n cap xs t hn hc hm hz hM ht=>
  subst hn
  obtain ⟨vs,l1,l2,l3,l4⟩:=h.sliceCells hs hz hM
  exact ⟨⟨vs,Src.ofSlice w hk ⟨b,o,none⟩ _ cap vs l1 (fun j u hj=>by rw [bH];exact l2 j u hj) l3,l4⟩,hz,fun m hm=>EA (vs:=vs) (by rw [l1];exact Bp _ hm) (fun j u hj=>by rw [bH];exact l2 j u hj) l3 l4⟩
theorem SrcA.ofRow {P:Program} (h:Mem M ob obs w) {k g sz:Nat} {e:TypeId} {xs:List AVal} (hs:0<sz) (hx:obs[k]? =some (.row g sz e xs)) {tx e':TypeId} (hk:P.underlying tx=some (.slice e')) {v:Value} (hv:at' ob k g=some v)
  {lo len:Nat} (hl:lo+len<=xs.length) {x:Value} (hxv:∀ b n c,v= .slice (some ⟨b,0,none⟩) n c->len≠0->∃ c',x= .slice (some ⟨b,lo*sz,none⟩) len c') (hx0:len=0->∃ a c',x= .slice a 0 c'):SrcA P M w sz tx x ((xs.drop lo).take len):=by
 obtain ⟨hs0,v0,_,_,_,e4,hrow,_⟩:=h.rowOf hx
 rw [hv] at e4
 cases e4
 obtain ⟨cv,o1,o2,o3,o4,o5⟩:=hrow
 have hz:∀ y∈(xs.drop lo).take len,y.cells.length=sz:=fun y hy=>o3 y (Dp (Ch hy))
 have hlen:((xs.drop lo).take len).length=len:=by simp;omega
 suffices hsuf:(∃ news,Src P sz tx x len news w/\∀ (q:Nat) c,aH sz ((xs.drop lo).take len) q=some c->∃ u,news[q]? =some u/\Rep M [] u c)/\
   ∀ m,m<=len->∃ news:List Value,(Bv sz m x).run P w= .ok news.toArray w/\news.length=m*sz/\(∀ u∈news,u.oneCell'=true)/\∀ (q:Nat) c,q<m*sz->aH sz ((xs.drop lo).take len) q=some c->∃ u,news[q]? =some u/\Rep M [] u c by
  exact ⟨by rw [hlen];exact hsuf.1,hz,fun m hm=>hsuf.2 m (by rw [hlen] at hm;exact hm)⟩
 by_cases h0:len=0
 .subst h0
  obtain ⟨a,c',rfl⟩:=hx0 rfl
  cases a with
  | none=>exact ⟨⟨[],Src.ofNil w hk c',fun q c hq=>by simp [aH] at hq⟩,fun m hm=>wT hm⟩
  | some a=>exact ⟨⟨[],Src.ofSlice w hk a 0 c' [] (by simp) (fun j u hj=>by simp at hj) (fun u hu=>by simp at hu),fun q c hq=>by simp [aH] at hq⟩,fun m hm=>D9 hm⟩
 .rcases cW o1 with ⟨q,hn⟩ | ⟨b,cap,q,q2,_⟩
  .omega
  .obtain ⟨c',rfl⟩:=hxv b _ cap q h0
   have hcl:(lo+len)*sz<=cv.length:=by rw [o1.1];exact Bp _ hl
   have f1:((cv.drop (lo*sz)).take (len*sz)).length=len*sz:=by rw [Cq,Dy];rw [Cc] at hcl;omega
   have f2:∀ (j:Nat) u,((cv.drop (lo*sz)).take (len*sz))[j]? =some u->w.cell? ((⟨b,lo*sz,none⟩:Addr).add j)=some u:=fun j u hj=>by
    rw [En] at hj
    split at hj
    .rw [Bu] at hj
     rw [bH]
     exact eQ o1 q2 hj
    .cases hj
   have f3:∀ u∈(cv.drop (lo*sz)).take (len*sz),u.oneCell'=true:=fun u hu=>o2 u (Dp (Ch hu))
   have f4:∀ (j:Nat) c,aH sz ((xs.drop lo).take len) j=some c->∃ u,((cv.drop (lo*sz)).take (len*sz))[j]? =some u/\Rep M [] u c:=fun j c hj=>by
    have hlt:=eA hs hj
    rw [hlen] at hlt
    rw [kE hs hlt,uF hs] at hj
    obtain ⟨u,hu,hr⟩:=o4 _ c hj
    exact ⟨u,by rw [Bj hlt,Bu];exact hu,hr⟩
   exact ⟨⟨_,Src.ofSlice w hk _ _ _ _ f1 f2 f3,f4⟩,fun m hm=>EA (by rw [f1];exact Bp _ hm) f2 f3 f4⟩
theorem lU (l:List UInt8):(⟨l.toArray⟩:ByteArray).size=l.length:=by simp [ByteArray.size]
theorem qO (c:UInt8):Rep M ob (.int .u8 c.toNat) (ub c):=.int _ _ ⟨by simp only [cC];omega,by simp only [bF];have:=c.toNat_lt;omega⟩
theorem JA (l:List UInt8):∀ y∈l.map ub,y.cells.length=1:=fun y hy=>by obtain ⟨c,_,rfl⟩:=Cy.1 hy;rfl
theorem tH (l:List UInt8) (q:Nat):aH 1 (l.map ub) q=(l[q]?).map ub:=by
 unfold aH
 rw [Ki,Kh,Bb]
 cases l[q]?<;>rfl
theorem SrcA.ofStr {P:Program} {tx:TypeId} (hk:P.underlying tx=some .string) (l:List UInt8):SrcA P M w 1 tx (.string ⟨l.toArray⟩) (l.map ub):=by
 have hbc:∀ (q:Nat) c,aH 1 (l.map ub) q=some c->∃ b,l[q]? =some b/\c=ub b:=fun q c hq=>by
  rw [tH] at hq
  obtain ⟨b,hb,rfl⟩:=Bx.1 hq
  exact ⟨b,hb,rfl⟩
 refine ⟨⟨byteCells ⟨l.toArray⟩,?_,fun q c hq=>?_⟩,JA l,fun m hm=>⟨(l.take m).map fun b=>Hl .u8 b.toNat,?_,by have:=hm;simp at this⊢;omega,fun u hu=>by obtain ⟨_,_,rfl⟩:=Cy.1 hu;rfl,fun q c hq hc=>?_⟩⟩
 .have:=Src.ofString (P:=P) w hk ⟨l.toArray⟩
  rw [lU] at this
  rw [Cv]
  exact this
 .rw [tH] at hq
  obtain ⟨b,hb,rfl⟩:=Bx.1 hq
  exact ⟨.int .u8 b.toNat,by simp [byteCells,hb],qO b⟩
 .have e:(Bv 1 m (.string ⟨l.toArray⟩)).run P w= .ok (((⟨l.toArray⟩:ByteArray).extract 0 m).data.map fun b=>Hl .u8 b.toNat) w:=rfl
  rw [e]
  congr 1
  apply Array.toList_inj.1
  rw [Gn,Lib.extract_data,Db,Fy]
 .obtain ⟨b,hb,rfl⟩:=hbc q c hc
  rw [Nat.mul_one] at hq
  exact ⟨.int .u8 b.toNat,by rw [Bb,Bj hq,hb];rfl,qO b⟩
theorem F9 {P:Program} (h:Mem M ob obs w) {t tx ty e:TypeId} {i:TypeInfo} {z:Value} (ht:P.underlying t=some (.slice e)) (hi:P.info? e=some i) (hz:i.zero=some z) (hz1:z.cells.toList.all (·.oneCell')=true)
  (hzs:z.cells.size=i.size) (hpos:0<i.size) {xs ys:List AVal} {v x:Value} (hv:Rep M ob v (.slice i.size xs .full)) (hs:SrcA P M w i.size tx x ys)
  (h63:xs.length+ys.length<=maxLen) (hbytes:(xs.length+ys.length)*i.bytes<=140737488355328):
  ∃ v' w',(Cd #[t,tx] ty #[v,x]).run P w= .ok v' w'/\((ys=[]/\v'=v/\w'=w)\/(ys≠[]/\Grown M w w' i.size e v' (xs++ys))):=by
 obtain ⟨hvr,⟨a,n,hvt⟩⟩:=hv.untok
 obtain ⟨⟨news,s1,s2⟩,s3⟩:=hs
 obtain ⟨a',c,hve,h0,h1,_⟩:=hvr.slice_inv
 subst hvt
 cases hve
 have hsm:((xs.length+ys.length:Nat):Int)<=9223372036854775807:=by simp only [maxLen] at h63;omega
 by_cases hy:ys=[]
 .subst hy
  refine ⟨_,w,?_,.inl ⟨rfl,rfl,rfl⟩⟩
  have hn:news=[]:=Au (by simpa using s1.newsLen)
  subst hn
  have s0:Src P i.size tx x 0 [] w:=s1
  cases a with
  | none=>rcases s0.kind with ⟨e',hk⟩ | hk<;>simp [Cd,run_underlying ht,run_underlying hk,sizeOf,typeInfo,hi,s0.len,s0.cells]
  | some a=>rcases s0.kind with ⟨e',hk⟩ | hk<;>simp [Cd,run_underlying ht,run_underlying hk,sizeOf,typeInfo,hi,s0.len,s0.cells,storeCells]
 .have hpos':0<ys.length:=Fp.2 hy
  have pre:(∀ x∈xs,x.cells.length=i.size)/\∃ olds:List Value,olds.length=xs.length*i.size/\(Bv i.size xs.length (.slice a xs.length xs.length)).run P w.drew= .ok olds.toArray w.drew/\(∀ u∈olds,u.oneCell'=true)/\
    ∀ (q:Nat) c,aH i.size xs q=some c->∃ u,olds[q]? =some u/\Rep M [] u c:=by
   have nilc:xs=[]->(∀ x∈xs,x.cells.length=i.size)/\∃ olds:List Value,olds.length=xs.length*i.size/\(Bv i.size xs.length (.slice a xs.length xs.length)).run P w.drew= .ok olds.toArray w.drew/\(∀ u∈olds,u.oneCell'=true)/\
     ∀ (q:Nat) c,aH i.size xs q=some c->∃ u,olds[q]? =some u/\Rep M [] u c:=by
    intro hx
    subst hx
    refine ⟨fun x hx=>by simp at hx,[],by simp,?_,fun u hu=>by simp at hu,fun q c hq=>by simp [aH] at hq⟩
    cases a<;>simp [Bv,loadCells,loadCellsFrom]
   generalize hvv:Ff a xs.length xs.length=v at hvr
   cases hvr with
   | slnil sz t ht=>have q:=nilc rfl;rw [hvv] at q;exact q
   | slemp sz t a cap ht=>have q:=nilc rfl;rw [hvv] at q;exact q
   | sl sz b o n cap xs t hn hc hm hzx hM ht=>
    injection hvv with v1 v2 v3
    subst v1
    obtain ⟨olds,k1,k2,k3,k4⟩:=h.sliceCells hpos hzx hM
    exact ⟨hzx,olds,k1,run_firstCells_some w.drew i.size _ ⟨b,o,none⟩ _ _ olds k1 (fun j u hj=>by rw [bH];simpa using k2 j u hj),k3,k4⟩
  obtain ⟨hzx,olds,k1,k2,k3,k4⟩:=pre
  have hr:=run_append_grow_src (P:=P) w t tx ty e i z ht hi hz a xs.length xs.length olds k2 x ys.length news s1 (by omega) hsm (growslice_fits (by omega) hbytes)
  have hge:=grownCap_ge w (xs.length+ys.length) xs.length e
  have hcm:grownCap w (xs.length+ys.length) xs.length e<=maxLen:=grownCap_le_maxLen w (xs.length+ys.length) xs.length e h63
  have hlen:(olds++news).length=(xs.length+ys.length)*i.size:=by rw [Ag,k1,s1.newsLen,Cc]
  refine ⟨_,_,hr,.inr ⟨hy,⟨olds++news,⟨by rw [hlen,Ag],.inr ⟨w.heap.size,_,_,by rw [Ag],Bm _,heap_alloc_new w.drew _,by rw [Ag];exact hge,hcm,?_,?_⟩⟩,fun u hu=>?_,fun q c hq=>?_⟩,hpos,fun y hy=>?_,fun b hb=>?_,fun b hb=>heap_alloc_old w.drew _ hb,rfl,rfl,rfl,by rw [bX];exact Jc _,?_⟩⟩
  .simp only [Array.size_append,Fo,size_zeroCells,hzs,hlen,<-Cc]
   congr 1
   omega
  .rw [Ag]
   simp only [Kn]
   rw [<-hlen]
   exact Gz
  .rcases Ba.1 hu with hu | hu
   .exact k3 u hu
   .exact s1.one u hu
  .by_cases hlt:q<xs.length*i.size
   .rw [cE hpos hlt] at hq
    rw [Ah (by rw [k1];exact hlt)]
    exact k4 q c hq
   .rw [bY hpos (by omega)] at hq
    rw [Aq (by rw [k1];omega),k1]
    exact s2 _ c hq
  .rcases Ba.1 hy with hy | hy
   .exact hzx y hy
   .exact s3 y hy
  .simp only [Fh,Cu] at hb
   omega
  .have:∀ k,(olds++news).toArray++Bz z.cells k=((olds++news)++(Bz z.cells k).toList).toArray:=fun k=>by apply Cp;simp
   rw [this]
   refine lT (w:=w.drew) fun u hu=>?_
   rcases Ba.1 hu with hu | hu
   .rcases Ba.1 hu with hu | hu
    .exact k3 u hu
    .exact s1.one u hu
   .exact gS hz1 u hu
theorem Grown.ofAlloc {sz:Nat} {e:TypeId} {xs:List AVal} {cv:List Value} (hpos:0<sz) (hcl:cv.length=xs.length*sz) (h1:∀ u∈cv,u.oneCell'=true) (hz:∀ x∈xs,x.cells.length=sz) (hm:xs.length<=maxLen)
  (hr:∀ (q:Nat) c,aH sz xs q=some c->∃ u,cv[q]? =some u/\Rep M [] u c):Grown M w (w.alloc (.cells cv.toArray e)) sz e (.slice (some ⟨w.heap.size,0,none⟩) xs.length xs.length) xs:=by
 refine ⟨⟨cv,⟨hcl,.inr ⟨w.heap.size,xs.length,cv.toArray,rfl,Bm _,heap_alloc_new w _,Bc _,hm,by simpa using hcl,by simp [<-hcl]⟩⟩,h1,hr⟩,hpos,hz,fun b hb=>?_,fun b hb=>heap_alloc_old w _ hb,rfl,rfl,rfl,by rw [bX];exact Jc _,lT h1⟩
 simp only [Fh,Cu] at hb
 omega
theorem Mem.bornCells (h:Mem M ob obs w) {k:Nat} (h1:obs[k]? =some .dead) (h2:ob[k]? =some []) {cv:List Value} {cs:List AVal} (T:TypeId) (hl:cv.length=cs.length) (hone:∀ v∈cv,v.oneCell'=true)
  (hr:∀ (i:Nat) v a,cv[i]? =some v->cs[i]? =some a->Rep M ob v a):
  Mem M (ob.set k [.pointer (some ⟨w.heap.size,0,none⟩)]) (obs.set k (.cells T cs)) (w.alloc (.cells cv.toArray T))/\Ext M ob obs w M (ob.set k [.pointer (some ⟨w.heap.size,0,none⟩)]) (obs.set k (.cells T cs)) (w.alloc (.cells cv.toArray T))/\
   cF ob obs (ob.set k [.pointer (some ⟨w.heap.size,0,none⟩)]) (obs.set k (.cells T cs))/\Rep M (ob.set k [.pointer (some ⟨w.heap.size,0,none⟩)]) (.pointer (some ⟨w.heap.size,0,none⟩)) (.ref k 0):=by
 have hk:k<ob.length:=(Ab.1 h2).1
 have:=h.turn (M':=M) (w':=w.alloc (.cells cv.toArray T)) (x':=.cells T cs) (hs':=[.pointer (some ⟨w.heap.size,0,none⟩)]) h1 h2 ⟨_,rfl⟩ (fun _=>rfl) (fun _ _ _ h=>h) (fun _ _ _ h=>.inl h) (fun b o y hy=>by
   obtain ⟨u,hu,h4,h5⟩:=h.imm b o y hy
   exact ⟨u,(Cg (w:=w) (a:=⟨b,o,none⟩) (heap_alloc_old w _ (Cj w _ hu))).trans hu,h4,h5⟩)
  (fun b hb _=>heap_alloc_old w _ hb) rfl rfl rfl (by rw [bX];exact Jc _) (fun hle=>⟨_,rfl,fun o=>h.noImm (Bc _) o,cv,heap_alloc_new w _,hl,hone,fun i v a hv ha=>(hr i v a hv ha).mono (fun _ _ _ h=>h) hle⟩)
  (fun _ b hb=>by
   have:w.heap.size=b:=cZ.1 hb
   exact ⟨.inr (by omega),by rw [bX];omega⟩)
 refine ⟨this.1,this.2.1,this.2.2,.ref k 0 _ ?_⟩
 rw [bT (Ax hk)]
 rfl
theorem Mem.bornMap (h:Mem M ob obs w) {k:Nat} (h1:obs[k]? =some .dead) (h2:ob[k]? =some []) (ag:Bool):
  Mem M (ob.set k [.map (some w.heap.size)]) (obs.set k (.mp ag [])) (w.alloc (.map #[] 0))/\Ext M ob obs w M (ob.set k [.map (some w.heap.size)]) (obs.set k (.mp ag [])) (w.alloc (.map #[] 0))/\
   cF ob obs (ob.set k [.map (some w.heap.size)]) (obs.set k (.mp ag []))/\Rep M (ob.set k [.map (some w.heap.size)]) (.map (some w.heap.size)) (.mref k):=by
 have hk:k<ob.length:=(Ab.1 h2).1
 have:=h.turn (M':=M) (w':=w.alloc (.map #[] 0)) (x':=.mp ag []) (hs':=[.map (some w.heap.size)]) h1 h2 ⟨_,rfl⟩ (fun _=>rfl) (fun _ _ _ h=>h) (fun _ _ _ h=>.inl h) (fun b o y hy=>by
   obtain ⟨u,hu,h4,h5⟩:=h.imm b o y hy
   exact ⟨u,(Cg (w:=w) (a:=⟨b,o,none⟩) (heap_alloc_old w _ (Cj w _ hu))).trans hu,h4,h5⟩)
  (fun b hb _=>heap_alloc_old w _ hb) rfl rfl rfl (by rw [bX];exact Jc _) (fun hle=>⟨_,rfl,fun o=>h.noImm (Bc _) o,[],0,heap_alloc_new w _,rfl,fun i x y hx=>by simp at hx,fun i x hx=>by simp at hx,fun i j x y hx=>by simp at hx⟩)
  (fun _ b hb=>by
   have:w.heap.size=b:=cZ.1 hb
   exact ⟨.inr (by omega),by rw [bX];omega⟩)
 refine ⟨this.1,this.2.1,this.2.2,.mref k _ ?_⟩
 rw [bT (Ax hk)]
 rfl
theorem Mem.cellsTurn (h:Mem M ob obs w) {k:Nat} {T:TypeId} {cs cs':List AVal} (hx:obs[k]? =some (.cells T cs)) {b:Nat} (hb:at' ob k 0=some (.pointer (some ⟨b,0,none⟩))) {cv':List Value} (hl:cv'.length=cs'.length) (h1:∀ u∈cv',u.oneCell'=true)
  (hr:∀ (i:Nat) v a,cv'[i]? =some v->cs'[i]? =some a->Rep M ob v a):
  Mem M ob (obs.set k (.cells T cs')) (w.setRow b cv'.toArray)/\Ext M ob obs w M ob (obs.set k (.cells T cs')) (w.setRow b cv'.toArray)/\cF ob obs ob (obs.set k (.cells T cs')):=by
 obtain ⟨hs,e1,b',e2,hno,cv,e3,_⟩:=h.obj k _ hx
 have:b'=b:=by rw [bT e1,e2] at hb;simpa using hb
 subst this
 have hset:=eY (l:=ob) e1
 have:=h.turn (M':=M) (w':=w.setRow b' cv'.toArray) (x':=.cells T cs') (hs':=hs) hx e1 (Cr _) (fun e=>by cases e) (fun _ _ _ h=>h) (fun _ _ _ h=>.inl h) (fun b o y hy=>by
   obtain ⟨u,hu,h4,h5⟩:=h.imm b o y hy
   have hne:b≠b':=fun e=>by subst e;exact hno o y hy
   exact ⟨u,(Cg (w:=w) (a:=⟨b,o,none⟩) (setRow_other w b' b _ hne)).trans hu,h4,h5⟩)
  (fun b _ hn=>setRow_other w b' b _ fun e=>hn ⟨rfl,by subst e;rw [e2];exact cZ.2 rfl⟩) rfl rfl rfl (by simp [Ii]) (fun hle=>⟨b',e2,hno,cv',setRow_heap w b' _ _ T _ e3,hl,h1,fun i v a hv ha=>(hr i v a hv ha).mono (fun _ _ _ h=>h) hle⟩)
  (fun _ b hb'=>⟨.inl ⟨rfl,hb'⟩,by
   have:b'=b:=by rw [e2] at hb';exact cZ.1 hb'
   subst this
   have:=eI e3
   simpa [Ii] using this⟩)
 rw [hset] at this
 exact this
end
section
variable {M:Imm} {ob:Hs} {obs:List AObj} {w:World}
theorem bR {M':Imm} {ob':Hs} {f:AVal->AVal} (hf:∀ v a,Rep M ob v a->Rep M' ob' v (f a)) {as:List AVal} {vs:List Value} (hl:vs.length=as.length) (h:∀ (i:Nat) v a,vs[i]? =some v->as[i]? =some a->Rep M ob v a):
  vs.length=(dC f as).length/\∀ (i:Nat) v a,vs[i]? =some v->(dC f as)[i]? =some a->Rep M' ob' v a:=by
 rw [rD]
 refine ⟨by simpa using hl,fun i v a hv ha=>?_⟩
 rw [Bb] at ha
 obtain ⟨b,hb,rfl⟩:=Bx.1 ha
 exact hf v b (h i v b hv hb)
theorem rV {k g:Nat} {v:Value} {hs:List Value} (h1:ob[k]? =some hs) (h2:at' ob k g=some v):hs[g]? =some v:=by rw [<-bT h1];exact h2
theorem Z4 {b o n sz:Nat} {xs:List AVal} (hn:xs.length=n) (hm:(n:Int)<=9223372036854775807) (hz:∀ x∈xs,x.cells.length=sz) (h:∀ (i j:Nat) x c,xs[i]? =some x->x.cells[j]? =some c->M b (o+i*sz+j) c)
  {lo len c':Nat} (hl:lo+len<=n) (hc:len<=c') {t:Tk} (ht:pC ob (.slice (some ⟨b,o+lo*sz,none⟩) len c') t):Rep M ob (.slice (some ⟨b,o+lo*sz,none⟩) len c') (.slice sz ((xs.drop lo).take len) t):=by
 refine .sl sz b _ len c' _ t (by simp;omega) hc (by omega) (fun x hx=>hz x (Dp (Ch hx))) (fun i j x c hx hj=>?_) ht
 rw [En] at hx
 split at hx
 .rw [Bu] at hx
  have:=h (lo+i) j x c hx hj
  rwa [Cc,<-Gr] at this
 .cases hx
theorem Mem.pureV (h:Mem M ob obs w):∀ (n:Nat) (v:Value) (a:AVal),Rep M ob v a->Rep M [] v (pureV (aE obs) n a):=by
 intro n
 induction n with
 | zero=>intro v a _;exact .undef v
 | succ n ih=>
  intro v a hr
  cases hr with
  | undef v=>exact .undef v
  | bool b=>exact .bool b
  | int k n hr=>exact .int k n hr
  | str l hl=>exact .str l hl
  | agg vs as hl hr=>
   obtain ⟨h1,h2⟩:=bR (ih) hl hr
   exact .agg vs _ h1 h2
  | tup vs as hl hr=>
   obtain ⟨h1,h2⟩:=bR (ih) hl hr
   exact .tup vs _ h1 h2
  | ptr b o cs hr=>exact .ptr b o cs hr
  | ref k off b hb=>
   simp only [AW.pureV]
   split
   .rename_i cs hk
    obtain ⟨hs,h1,b',h2,h3⟩:=h.obj k _ (bP hk (by simp))
    have:=rV h1 hb
    rw [h2] at this
    simp at this
    subst this
    exact .ptr _ _ _ fun j c hc=>by rw [jP,Bu] at hc;exact h3 _ c hc
   .exact .undef _
  | eref k g i sz off b n c hb=>exact .undef _
  | rowc k g c a n h hm=>exact .undef _
  | pre k g n c sz b len h hc hn hl hm=>exact .undef _
  | csl k off len sz b hb hm=>
   simp only [AW.pureV]
   split
   .rename_i cs hk
    cases hq:Ar sz 1 with
    | false=>exact .undef _
    | true=>
     simp only [cond_true]
     split
     .rename_i l hl
      cases ho:lS l with
      | false=>exact .undef _
      | true=>
       simp only [cond_true]
       obtain ⟨hs,h1,b',h2,h3⟩:=h.obj k _ (bP hk (by simp))
       have:=rV h1 hb
       rw [h2] at this
       simp at this
       subst this
       obtain ⟨l1,l2⟩:=gO hl
       refine .sl 1 _ off len len l .full l1 (Bc _) hm (fun x hx=>?_) (fun i j x c hx hc=>?_) ⟨_,_,rfl⟩
       .obtain ⟨i,hi⟩:=Cz hx
        rw [kY (jE ho i x hi)];rfl
       .rw [kY (jE ho i x hx)] at hc
        cases j with
        | succ j=>simp at hc
        | zero=>
         simp at hc
         subst hc
         have:=l2 i x hx
         rw [jP,Bu] at this
         have:=h3 _ x this
         simpa using this
     .exact .undef _
   .exact .undef _
  | row k g a n c hb=>
   simp only [AW.pureV]
   split
   .rename_i g' sz xs hk
    cases hq:Ar g g' with
    | false=>exact .undef _
    | true=>
     have:=aB hq
     subst this
     simp only [cond_true]
     obtain ⟨hs,h1,v',h2,h3⟩:=h.obj k _ (bP hk (by simp))
     have:=rV h1 hb
     rw [h2] at this
     cases this
     exact h3
   .exact .undef _
  | sub k g lo len sz b n c hb hl hn hc hm=>
   simp only [AW.pureV]
   split
   .rename_i g' sz' xs hk
    cases hq:(Ar g g'&&Ar sz sz') with
    | false=>exact .undef _
    | true=>
     obtain ⟨q1,q2⟩:=aS hq
     have:=aB q1
     have:=aB q2
     subst_vars
     simp only [cond_true]
     obtain ⟨hs,h1,v',h2,h3⟩:=h.obj k _ (bP hk (by simp))
     have:=rV h1 hb
     rw [h2] at this
     cases this
     rcases h3.sl_inv with ⟨q,_⟩ | ⟨a,cap,q,q2⟩ | ⟨b',o',cap',q,hc',hm',hz,hM⟩
     .cases q
     .injection q with _ q3 _
      have:len=0:=by omega
      subst this
      rw [Ft]
      exact .slemp _ _ _ _ trivial
     .injection q with q1 q2 q3
      injection q1 with q1
      injection q1 with q1 q4 _
      subst q1 q4
      have:=Z4 (ob:=[]) (t:=.no) q2.symm hm hz hM hn (show len<=c-lo by omega) trivial
      rw [Bk] at this
      exact this
   .exact .undef _
  | sub0 k g lo sz _ a n c hb hl hc=>
   simp only [AW.pureV]
   split
   .rename_i g' sz' xs hk
    cases hq:(Ar g g'&&Ar sz sz') with
    | false=>exact .undef _
    | true=>
     simp only [cond_true,Ft]
     cases a with
     | none=>exact .slnil _ _ trivial
     | some a=>exact .slemp _ _ _ _ trivial
   .exact .undef _
  | mref k b hb=>exact .undef _
  | nilptr=>exact .nilptr
  | nilslice=>exact .nilslice
  | nilmap=>exact .nilmap
  | nilfunc=>exact .nilfunc
  | nilif=>exact .nilif
  | hsl a n c=>exact .hsl a n c
  | slnil sz t ht=>exact .slnil sz .no trivial
  | slemp sz t a cap ht=>exact .slemp sz .no a cap trivial
  | sl sz b o n cap xs t hn hc hm hz hr ht=>exact .sl sz b o n cap xs .no hn hc hm hz hr trivial
  | func fn fs cs fa ca hf hc hr1 hr2=>
   obtain ⟨h1,h2⟩:=bR (ih) hf hr1
   obtain ⟨h3,h4⟩:=bR (ih) hc hr2
   exact .func fn fs cs _ _ h1 h3 h2 h4
  | iface t v a hr=>exact .iface t v _ (ih v a hr)
theorem aP {k:Nat} {x y:AObj} (h:obs[k]? =some x):bK obs k y=obs.set k y:=fS y (Ab.1 h).1
def lO (M:Imm) (ob:Hs) (obs:List AObj) (w:World) (obs':List AObj):Prop:=∃ M',Mem M' ob obs' w/\Ext M ob obs w M' ob obs' w/\(∀ k:Nat,obs[k]? =some .dead->obs'[k]? =some .dead)/\obs'.length=obs.length
theorem lO.refl (h:Mem M ob obs w):lO M ob obs w obs:=⟨M,h,Ext.refl _ _ _ _,fun _ h=>h,rfl⟩
theorem lO.trans {o1 o2:List AObj} (h:lO M ob obs w o1) (k:∀ M',Mem M' ob o1 w->lO M' ob o1 w o2):lO M ob obs w o2:=by
 obtain ⟨M1,h1,h2,h3,h4⟩:=h
 obtain ⟨M2,k1,k2,k3,k4⟩:=k M1 h1
 exact ⟨M2,k1,h2.trans k2,fun i hi=>k3 i (h3 i hi),k4.trans h4⟩
theorem Mem.frzR (h:Mem M ob obs w) (k g:Nat):lO M ob obs w (AW.frzR obs k g):=by
 unfold AW.frzR
 split
 .rename_i g' sz e xs hk
  cases hq:Ar g g' with
  | false=>exact .refl h
  | true=>
   have:=aB hq
   subst this
   simp only [cond_true]
   have hx:=bP hk (by simp)
   rw [aP hx]
   obtain ⟨hs,v,e1,e2,e3,e4,⟨cv,o1,o2,o3,o4,o5⟩,hblk⟩:=h.rowOf hx
   have main:=h.turn (M':=fA M v sz xs) (w':=w) (x':=.frow g sz xs) (hs':=hs) hx e1 (Cr _) (fun e=>by cases e) (fun _ _ _ h=>.inl h) (fun b o y hy=>by
     rcases hy with hy | ⟨hb,_⟩
     .exact .inl hy
     .exact .inr (.inl ⟨rfl,oW hblk hb⟩)) (fun b o y hy=>by
     rcases hy with hy | ⟨hb,hy⟩
     .obtain ⟨u,hu,h1,h2⟩:=h.imm b o y hy
      exact ⟨u,hu,h1,h2.monoM fun _ _ _ h=>.inl h⟩
     .obtain ⟨u,hu,hr⟩:=o4 o y hy
      exact ⟨u,eQ o1 hb hu,o2 u (Aw hu),hr.monoM fun _ _ _ h=>.inl h⟩) (fun _ _ _=>rfl) rfl rfl rfl (Bc _)
    (fun _=>⟨v,e3,hD o1 o3 trivial⟩) (fun e=>by cases e)
   rw [eY e1] at main
   exact ⟨_,main.1,main.2.1,fun i hi=>by rw [Bd (fun e=>by subst e;rw [hx] at hi;cases hi)];exact hi,by simp⟩
 .exact .refl h
theorem Mem.frz1 (h:Mem M ob obs w) (k:Nat):lO M ob obs w (AW.frz1 obs k):=by
 unfold AW.frz1
 split
 .rename_i cs hk
  have hx:=bP hk (by simp)
  rw [aP hx]
  obtain ⟨hs,e1,b0,e2,hno,cv,e3,e4,e5,e6⟩:=h.obj k _ hx
  have hc:cv.length=(dC (AW.pureV (aE obs) 4) cs).length/\∀ (i:Nat) v a,cv[i]? =some v->(dC (AW.pureV (aE obs) 4) cs)[i]? =some a->Rep M [] v a:=bR (h.pureV 4) e4 e6
  let M':Imm:=fun b o y=>M b o y\/(b=b0/\(dC (AW.pureV (aE obs) 4) cs)[o]? =some y)
  have main:=h.turn (M':=M') (w':=w) (x':=.fcells (dC (AW.pureV (aE obs) 4) cs)) (hs':=hs) hx e1 (Cr _) (fun e=>by cases e) (fun _ _ _ h=>.inl h) (fun b o y hy=>by
    rcases hy with hy | ⟨rfl,_⟩
    .exact .inl hy
    .exact .inr (.inl ⟨rfl,by rw [e2];exact cZ.2 rfl⟩)) (fun b o y hy=>by
    rcases hy with hy | ⟨rfl,hy⟩
    .obtain ⟨u,hu,h1,h2⟩:=h.imm b o y hy
     exact ⟨u,hu,h1,h2.monoM fun _ _ _ h=>.inl h⟩
    .have hlt:o<cv.length:=by rw [hc.1];exact (Ab.1 hy).1
     exact ⟨cv[o],by rw [cell_of_row w b _ _ _ (0,0) e3];simp [hlt],e5 _ (Bn hlt),(hc.2 o _ y (Ac hlt) hy).monoM fun _ _ _ h=>.inl h⟩) (fun _ _ _=>rfl) rfl rfl rfl (Bc _)
   (fun _=>⟨b0,e2,fun j c hj=>.inr ⟨rfl,hj⟩⟩) (fun e=>by cases e)
  rw [eY e1] at main
  exact ⟨_,main.1,main.2.1,fun i hi=>by rw [Bd (fun e=>by subst e;rw [hx] at hi;cases hi)];exact hi,by simp⟩
 .exact .refl h
theorem Mem.foldO {f:List AObj->AVal->List AObj} (ih:∀ (M:Imm) (obs:List AObj) (a:AVal),Mem M ob obs w->lO M ob obs w (f obs a)):∀ (l:List AVal) (M:Imm) (obs:List AObj),Mem M ob obs w->lO M ob obs w (foldO f obs l)
 | [],_,_,h=>.refl h
 | c::r,M,obs,h=>(ih M obs c h).trans fun M' h'=>Mem.foldO ih r M' _ h'
theorem Mem.frzV:∀ (n:Nat) (M:Imm) (obs:List AObj) (a:AVal),Mem M ob obs w->lO M ob obs w (frzV n obs a):=by
 intro n
 induction n with
 | zero=>intro M obs a h;exact .refl h
 | succ n ih=>
  intro M obs a h
  cases a
  case agg cs=>exact Mem.foldO ih _ _ _ h
  case tup cs=>exact Mem.foldO ih _ _ _ h
  case func fn fs cs=>exact (Mem.foldO ih _ _ _ h).trans fun M' h'=>Mem.foldO ih _ _ _ h'
  case iface t v=>exact ih _ _ _ h
  case ref k off=>
   simp only [AW.frzV]
   split
   .exact (Mem.foldO ih _ _ _ h).trans fun M' h'=>h'.frz1 k
   .exact .refl h
  case csl k a b c=>
   simp only [AW.frzV]
   split
   .exact (Mem.foldO ih _ _ _ h).trans fun M' h'=>h'.frz1 k
   .exact .refl h
  case row k g=>exact h.frzR k g
  case sub k g a b c=>exact h.frzR k g
  all_goals exact .refl h
theorem Mem.frzL (l:List AVal) (h:Mem M ob obs w):lO M ob obs w (frzL obs l):=Mem.foldO (Mem.frzV 6) l M obs h
theorem Mem.frzs:∀ (l:List Nat) (M:Imm) (obs:List AObj),Mem M ob obs w->lO M ob obs w (frzs l obs)
 | [],_,_,h=>.refl h
 | k::r,M,obs,h=>by
  unfold AW.frzs
  split
  .exact (h.frzR _ _).trans fun M' h'=>Mem.frzs r M' _ h'
  .exact (Mem.frzV 6 M obs _ h).trans fun M' h'=>Mem.frzs r M' _ h'
  .exact Mem.frzs r M _ h
end
theorem EB {k:Nat}:∀ {ks:List Nat} {j i:Nat},pos k j ks=some i->j<=i/\ks[i-j]? =some k
 | [],j,i,h=>by cases h
 | x::r,j,i,h=>by
  simp only [pos] at h
  cases hb:Ar x k with
  | true=>
   rw [hb] at h
   cases h
   have:=aB hb
   subst this
   simp
  | false=>
   rw [hb] at h
   obtain ⟨h1,h2⟩:=EB (ks:=r) h
   refine ⟨by omega,?_⟩
   rw [show i-j=(i-(j+1))+1 from by omega]
   simpa using h2
theorem JW {k i:Nat} {ks:List Nat} (h:pos k 0 ks=some i):ks[i]? =some k:=by simpa using (EB h).2
theorem lD {obs:List AObj}:∀ {ks:List Nat},lE ks obs=true->(∀ (j k:Nat),ks[j]? =some k->(aE obs k).owns=true)/\ks.Nodup
 | [],_=>⟨fun j k h=>by simp at h,List.nodup_nil⟩
 | x::r,h=>by
  simp only [lE,Ad,Cb] at h
  obtain ⟨⟨h1,h2⟩,h3⟩:=h
  obtain ⟨g1,g2⟩:=lD h3
  refine ⟨fun j k hj=>?_,Dr.2 ⟨fun hm=>?_,g2⟩⟩
  .cases j with
   | zero=>simp at hj;subst hj;exact h1
   | succ j=>exact g1 j k (by simpa using hj)
  .rw [jH.2 hm] at h2;cases h2
theorem AJ {l:List Nat} (h:l.Nodup):∀ {i j b:Nat},l[i]? =some b->l[j]? =some b->i=j:=by
 induction l with
 | nil=>intro i j b hi;simp at hi
 | cons x r ih=>
  intro i j b hi hj
  rw [Dr] at h
  cases i with
  | zero=>cases j with
   | zero=>rfl
   | succ j=>simp at hi hj;subst hi;exact absurd (Aw hj) h.1
  | succ i=>cases j with
   | zero=>simp at hi hj;subst hj;exact absurd (Aw hi) h.1
   | succ j=>simp at hi hj;rw [ih h.2 hi hj]
theorem dY {obs:List AObj} {k:Nat} (h:(aE obs k).owns=true):obs[k]? =some (aE obs k):=by
 refine bP rfl fun e=>?_
 rw [e] at h
 cases h
def fY (n0 j:Nat) (o:AObj) (hs:List Value):List Value:=
 if 0<dE o then (if j<n0 then hs.take 1 else [])++hs.drop (dE o) else hs
def dJ (n0:Nat) (ob:Hs) (obs:List AObj):Nat->List Nat->Hs
 | _,[]=>[]
 | j,k::r=>fY n0 j (aE obs k) (ob.getD k [])::dJ n0 ob obs (j+1) r
theorem eZ {n0:Nat} {ob:Hs} {obs:List AObj}:∀ {ks:List Nat} {j i:Nat},(dJ n0 ob obs j ks)[i]? =(ks[i]?).map fun k=>fY n0 (j+i) (aE obs k) (ob.getD k [])
 | [],j,i=>by simp [dJ]
 | k::r,j,i=>by
  cases i with
  | zero=>simp [dJ]
  | succ i=>simp only [dJ,Fv,eZ (ks:=r)];rw [show j+1+i=j+(i+1) from by omega]
theorem nY {n0:Nat} {ob:Hs} {obs:List AObj}:∀ {ks:List Nat} {j:Nat},(dJ n0 ob obs j ks).length=ks.length
 | [],j=>rfl
 | k::r,j=>by simp [dJ,nY (ks:=r)]
theorem DG {n0:Nat} {ks0:List Nat} {obs:List AObj}:∀ {ks:List Nat} {j i:Nat},(tR n0 ks0 obs j ks)[i]? =(ks[i]?).map fun k=>IF n0 ks0 obs (j+i) (aE obs k)
 | [],j,i=>by simp [tR]
 | k::r,j,i=>by
  cases i with
  | zero=>simp [tR]
  | succ i=>simp only [tR,Fv,DG (ks:=r)];rw [show j+1+i=j+(i+1) from by omega]
theorem kS {n0:Nat} {ks0:List Nat} {obs:List AObj}:∀ {ks:List Nat} {j:Nat},(tR n0 ks0 obs j ks).length=ks.length
 | [],j=>rfl
 | k::r,j=>by simp [tR,kS (ks:=r)]
theorem KM {n0 j cur g g':Nat} (h:gm n0 j cur g=some g'):(g=cur/\g'=(if j<n0 then (if cur=0 then 0 else 1) else 0))\/(g≠cur/\j<n0/\g=0/\g'=0):=by
 unfold gm at h
 have hb:∀ a b:Nat,Ar a b=decide (a=b):=fun a b=>by
  by_cases e:a=b
  .subst e;simp
  .rw [tJ e];simp [e]
 have hl:∀ a b:Nat,Du a b=decide (a<b):=fun a b=>by
  by_cases e:a<b
  .simp [Ep,e]
  .have:Du a b=false:=by
    cases hq:Du a b with
    | false=>rfl
    | true=>exact absurd (by simpa [Ep] using hq) e
   rw [this];simp [e]
 simp only [hb,hl] at h
 by_cases h1:g=cur
 .simp only [h1,decide_true,cond_true,Cu] at h
  left
  refine ⟨h1,h.symm.trans ?_⟩
  by_cases h2:j<n0<;>by_cases h3:cur=0<;>simp [h2,h3]
 .simp only [h1,decide_false,cond_false] at h
  by_cases h2:j<n0<;>by_cases h3:g=0<;>simp [h2,h3] at h
  exact .inr ⟨h1,h2,h3,h.symm⟩
theorem mA (n0 j g:Nat):gm n0 j g g=some (if j<n0 then (if g=0 then 0 else 1) else 0):=by
 unfold gm
 simp only [Nat.beq_eq_true_eq,Jt,cond_true,Cu]
 by_cases h2:j<n0
 .have:Du j n0=true:=by simp [Ep,h2]
  rw [this,if_pos h2]
  by_cases h3:g=0
  .subst h3;rfl
  .rw [tJ h3,if_neg h3];rfl
 .have:Du j n0=false:=by
   cases hq:Du j n0 with
   | false=>rfl
   | true=>exact absurd (by simpa [Ep] using hq) h2
  rw [this,if_neg h2];rfl
section
variable {M:Imm} {ob:Hs} {obs:List AObj} {w:World}
theorem Mem.histLen (h:Mem M ob obs w) {k:Nat} {hs:List Value} (hx:(aE obs k).owns=true) (hh:ob[k]? =some hs):hs.length=dE (aE obs k)+1:=by
 obtain ⟨hs',e,ho⟩:=h.obj k _ (dY hx)
 rw [hh] at e
 cases e
 cases hc:aE obs k with
 | dead=>rw [hc] at hx;cases hx
 | fcells cs=>rw [hc] at hx;cases hx
 | frow g sz xs=>rw [hc] at hx;cases hx
 | cells T cs=>rw [hc] at ho;obtain ⟨b,rfl,_⟩:=ho;rfl
 | row g sz e xs=>rw [hc] at ho;exact ho.1
 | tail g sz e=>rw [hc] at ho;exact ho.1
 | mp ag es=>rw [hc] at ho;obtain ⟨b,rfl,_⟩:=ho;rfl
 | bun g I=>rw [hc] at ho;exact ho.1
theorem rQ {n0 j g g':Nat} {o:AObj} {hs:List Value} (hl:hs.length=dE o+1) (hg:gm n0 j (dE o) g=some g'):(fY n0 j o hs)[g']? =hs[g]?:=by
 unfold fY
 rcases KM hg with ⟨rfl,rfl⟩ | ⟨h1,h2,rfl,rfl⟩
 .by_cases hc:0<dE o
  .rw [if_pos hc]
   by_cases hj:j<n0
   .rw [if_pos hj,if_pos hj,if_neg (by omega),Aq (by simp;omega)]
    simp only [Cq,Bu]
    congr 1
    omega
   .rw [if_neg hj,if_neg hj]
    simp
  .rw [if_neg hc]
   have:dE o=0:=by omega
   rw [this]
   simp
 .have hc:0<dE o:=by omega
  rw [if_pos hc,if_pos h2,Ah (by simp;omega)]
  simp
theorem tD {n0 j:Nat} {o:AObj} {hs:List Value} (hl:hs.length=dE o+1):(fY n0 j o hs).getLast? =hs.getLast?:=by
 unfold fY
 by_cases hc:0<dE o
 .rw [if_pos hc]
  rw [Kj,List.getLast?_drop,if_neg (by omega)]
  have hne:hs≠[]:=fun e=>by subst e;simp at hl
  rw [Hx hne]
  rfl
 .rw [if_neg hc]
theorem nZ {n0 j:Nat} {o:AObj} {hs:List Value} (hl:hs.length=dE o+1):(fY n0 j o hs).length=(if j<n0 then (if dE o=0 then 0 else 1) else 0)+1:=by
 unfold fY
 by_cases hc:0<dE o
 .rw [if_pos hc]
  by_cases hj:j<n0
  .rw [if_pos hj,if_pos hj,if_neg (by omega)];simp;omega
  .rw [if_neg hj,if_neg hj];simp;omega
 .rw [if_neg hc]
  have:dE o=0:=by omega
  simp [hl,this]
theorem Mem.cutAt (h:Mem M ob obs w) {n0:Nat} {ks:List Nat} (hk:lE ks obs=true) {k j g g':Nat} {v:Value} (hp:pos k 0 ks=some j) (hg:gm n0 j (dE (aE obs k)) g=some g') (hv:at' ob k g=some v):
  at' (dJ n0 ob obs 0 ks) j g'=some v:=by
 have hj:=JW hp
 have ho:=(lD hk).1 j k hj
 have hko:k<ob.length:=by rw [h.len];exact (Ab.1 (dY ho)).1
 have hh:ob[k]? =some ob[k]:=Ac hko
 have hl:=h.histLen ho hh
 have e:(dJ n0 ob obs 0 ks)[j]? =some (fY n0 j (aE obs k) ob[k]):=by
  rw [eZ,hj]
  simp [hh]
 rw [bT e,rQ hl hg]
 exact rV hh hv
theorem Mem.cvtV (h:Mem M ob obs w) {n0:Nat} {ks:List Nat} (hk:lE ks obs=true):∀ (n:Nat) (v:Value) (a:AVal),Rep M ob v a->Rep M (dJ n0 ob obs 0 ks) v (cvtV n0 ks (aE obs) n a):=by
 intro n
 induction n with
 | zero=>intro v a _;exact .undef v
 | succ n ih=>
  intro v a hr
  have g0:∀ {n0 j c x:Nat},gm n0 j c 0=some x->x=0:=fun {n0 j c x} hg=>by
   rcases KM hg with ⟨e,rfl⟩ | ⟨_,_,_,rfl⟩
   .subst e;by_cases hj:j<n0<;>simp [hj]
   .rfl
  have tok:∀ {v:Value} {sz:Nat} {xs:List AVal} {t:Tk},Rep M ob v (.slice sz xs t)->Rep M (dJ n0 ob obs 0 ks) v (AW.cvtV n0 ks (aE obs) (n+1) (.slice sz xs t)):=by
   intro v sz xs t hr
   obtain ⟨r1,r2⟩:=hr.untok
   have hno:Rep M (dJ n0 ob obs 0 ks) v (.slice sz xs .no):=r1.slice_pure.pure
   cases t with
   | no=>exact hno
   | nil=>
    cases ks with
    | nil=>exact hno
    | cons k ks=>exact hno.tok r2
   | full=>exact hno.tok r2
   | own k g=>
    simp only [AW.cvtV]
    split
    .rename_i j hp
     split
     .rename_i g' hg
      exact hno.tok (show at' _ _ _=_ from h.cutAt hk hp hg r2)
     .exact hno
    .exact hno
  cases hr with
  | undef v=>exact .undef v
  | bool b=>exact .bool b
  | int k n hr=>exact .int k n hr
  | str l hl=>exact .str l hl
  | agg vs as hl hr=>
   obtain ⟨h1,h2⟩:=bR (ih) hl hr
   exact .agg vs _ h1 h2
  | tup vs as hl hr=>
   obtain ⟨h1,h2⟩:=bR (ih) hl hr
   exact .tup vs _ h1 h2
  | ptr b o cs hr=>exact .ptr b o cs hr
  | ref k off b hb=>
   simp only [AW.cvtV]
   split
   .rename_i j hp
    split
    .rename_i x hg
     have:=g0 hg
     subst this
     exact .ref j off b (h.cutAt hk hp hg hb)
    .exact .undef _
   .exact (h.pureV 1 _ _ (.ref k off b hb)).pure
  | eref k g i sz off b n c hb=>exact .undef _
  | rowc k g c a n h hm=>exact .undef _
  | pre k g n c sz b len h hc hn hl hm=>exact .undef _
  | csl k off len sz b hb hm=>
   simp only [AW.cvtV]
   split
   .rename_i j hp
    split
    .rename_i x hg
     have:=g0 hg
     subst this
     exact .csl j off len sz b (h.cutAt hk hp hg hb) hm
    .exact .undef _
   .exact (h.pureV 1 _ _ (.csl k off len sz b hb hm)).pure
  | row k g a n c hb=>
   simp only [AW.cvtV]
   split
   .rename_i j hp
    split
    .rename_i g' hg
     exact .row j g' a n c (h.cutAt hk hp hg hb)
    .exact .undef _
   .exact (h.pureV 1 _ _ (.row k g a n c hb)).pure
  | sub k g lo len sz b n c hb hl hn hc hm=>
   simp only [AW.cvtV]
   split
   .rename_i j hp
    split
    .rename_i g' hg
     exact .sub j g' lo len sz b n c (h.cutAt hk hp hg hb) hl hn hc hm
    .exact .undef _
   .exact (h.pureV 1 _ _ (.sub k g lo len sz b n c hb hl hn hc hm)).pure
  | sub0 k g lo sz a a' n c hb hl hc=>
   simp only [AW.cvtV]
   split
   .rename_i j hp
    split
    .rename_i g' hg
     exact .sub0 j g' lo sz a a' n c (h.cutAt hk hp hg hb) hl hc
    .exact .undef _
   .exact (h.pureV 1 _ _ (.sub0 k g lo sz a a' n c hb hl hc)).pure
  | mref k b hb=>
   simp only [AW.cvtV]
   split
   .rename_i j hp
    split
    .rename_i x hg
     have:=g0 hg
     subst this
     exact .mref j b (h.cutAt hk hp hg hb)
    .exact .undef _
   .exact .undef _
  | nilptr=>exact .nilptr
  | nilslice=>exact .nilslice
  | nilmap=>exact .nilmap
  | nilfunc=>exact .nilfunc
  | nilif=>exact .nilif
  | hsl a n c=>exact .hsl a n c
  | slnil sz t ht=>exact tok (.slnil sz t ht)
  | slemp sz t a cap ht=>exact tok (.slemp sz t a cap ht)
  | sl sz b o n cap xs t hn hc hm hz hr ht=>exact tok (.sl sz b o n cap xs t hn hc hm hz hr ht)
  | func fn fs cs fa ca hf hc hr1 hr2=>
   obtain ⟨h1,h2⟩:=bR (ih) hf hr1
   obtain ⟨h3,h4⟩:=bR (ih) hc hr2
   exact .func fn fs cs _ _ h1 h3 h2 h4
  | iface t v a hr=>exact .iface t v _ (ih v a hr)
theorem Mem.cvt (h:Mem M ob obs w) {n0:Nat} {ks:List Nat} (hk:lE ks obs=true):
  Mem M (dJ n0 ob obs 0 ks) (gH n0 ks obs) w/\(∀ j b,aM (dJ n0 ob obs 0 ks) (gH n0 ks obs) j b->∃ k,ks[j]? =some k/\aM ob obs k b)/\
   (∀ j k b,ks[j]? =some k->aM ob obs k b->aM (dJ n0 ob obs 0 ks) (gH n0 ks obs) j b):=by
 obtain ⟨k1,k2⟩:=lD hk
 have hist:∀ {j k:Nat},ks[j]? =some k->∃ hs,ob[k]? =some hs/\hs.length=dE (aE obs k)+1/\(dJ n0 ob obs 0 ks)[j]? =some (fY n0 j (aE obs k) hs)/\(gH n0 ks obs)[j]? =some (IF n0 ks obs j (aE obs k))/\gD M ob w hs (aE obs k):=by
  intro j k hj
  have ho:=k1 j k hj
  obtain ⟨hs,hh,hok⟩:=h.obj k _ (dY ho)
  refine ⟨hs,hh,h.histLen ho hh,?_,?_,hok⟩
  .rw [eZ,hj];simp [hh]
  .unfold gH;rw [DG,hj];simp
 have ownsO:∀ j o,(IF n0 ks obs j o).owns=o.owns:=fun j o=>by cases o<;>rfl
 have fwd:∀ j b,aM (dJ n0 ob obs 0 ks) (gH n0 ks obs) j b->∃ k,ks[j]? =some k/\aM ob obs k b:=by
  rintro j b ⟨c,hs,e1,e2,e3,e4⟩
  have hj:∃ k,ks[j]? =some k:=by
   have:j<ks.length:=by
    have:=(Ab.1 e1).1
    unfold gH at this
    rwa [kS] at this
   exact ⟨_,Ac this⟩
  obtain ⟨k,hj⟩:=hj
  obtain ⟨hs',g1,g2,g3,g4,_⟩:=hist hj
  rw [g4] at e1
  rw [g3] at e3
  cases e1
  cases e3
  refine ⟨k,hj,(cI (dY (k1 j k hj)) g1).2 ⟨by rw [<-ownsO j];exact e2,?_⟩⟩
  unfold blk at e4⊢
  rwa [tD g2] at e4
 have bwd:∀ j k b,ks[j]? =some k->aM ob obs k b->aM (dJ n0 ob obs 0 ks) (gH n0 ks obs) j b:=by
  intro j k b hj ha
  obtain ⟨hs',g1,g2,g3,g4,_⟩:=hist hj
  have:=(cI (dY (k1 j k hj)) g1).1 ha
  refine (cI g4 g3).2 ⟨by rw [ownsO];exact this.1,?_⟩
  unfold blk
  rw [tD g2]
  exact this.2
 refine ⟨⟨h.imm,by unfold gH;rw [nY,kS],fun j c hc=>?_,fun j b ha=>?_,fun i j b ha hb=>?_⟩,fwd,bwd⟩
 .have hj:∃ k,ks[j]? =some k:=by
   have:j<ks.length:=by
    have:=(Ab.1 hc).1
    unfold gH at this
    rwa [kS] at this
   exact ⟨_,Ac this⟩
  obtain ⟨k,hj⟩:=hj
  obtain ⟨hs,g1,g2,g3,g4,g5⟩:=hist hj
  rw [g4] at hc
  cases hc
  refine ⟨_,g3,?_⟩
  have hl:=nZ (n0:=n0) (j:=j) g2
  have hself:=mA n0 j (dE (aE obs k))
  have hat:=rQ g2 hself
  cases hc:aE obs k with
  | dead=>exact trivial
  | fcells cs=>have:=k1 j k hj;rw [hc] at this;cases this
  | frow g sz xs=>have:=k1 j k hj;rw [hc] at this;cases this
  | cells T cs=>
   rw [hc] at g5
   obtain ⟨b,rfl,a1,cv,a2,a3,a4,a5⟩:=g5
   obtain ⟨m1,m2⟩:=bR (h.cvtV (n0:=n0) hk 4) a3 a5
   exact ⟨b,rfl,a1,cv,a2,m1,a4,m2⟩
  | row g sz e xs=>
   rw [hc] at g5 hl hat
   obtain ⟨a1,v,a2,a3⟩:=g5
   simp only [IF,mA]
   exact ⟨hl,v,hat.trans a2,a3⟩
  | tail g sz e=>
   rw [hc] at g5 hl hat
   obtain ⟨a1,v,a2,a3⟩:=g5
   simp only [IF,mA]
   exact ⟨hl,v,hat.trans a2,a3⟩
  | mp ag es=>
   rw [hc] at g5
   exact g5
  | bun g I=>
   rw [hc] at g5 hl hat
   obtain ⟨a1,v,a2,a3⟩:=g5
   simp only [IF,mA]
   exact ⟨hl,v,hat.trans a2,a3⟩
 .obtain ⟨k,_,ha⟩:=fwd j b ha
  exact h.lt k b ha
 .obtain ⟨k,hi,ha⟩:=fwd i b ha
  obtain ⟨k',hj,hb⟩:=fwd j b hb
  have:=h.inj k k' b ha hb
  subst this
  exact AJ k2 hi hj
end
theorem QU (ks:List Nat):dA.olenN ks=ks.length:=by
 induction ks with
 | nil=>rfl
 | cons k r ih=>simp [dA.olenN,ih]
theorem fW {ks:List Nat} {base j k:Nat} (h:ks[j]? =some k):dA ks base j=k:=by simp [dA,kH,h]
theorem fX {ks:List Nat} {base j:Nat} (h:ks.length<=j):dA ks base j=base+(j-ks.length):=by
 simp [dA,kH,Bf h,QU]
theorem S6 {ks:List Nat} {base:Nat} (hn:ks.Nodup) (hb:∀ (j k:Nat),ks[j]? =some k->k<base) {i j:Nat} (h:dA ks base i=dA ks base j):i=j:=by
 by_cases hi:i<ks.length<;>by_cases hj:j<ks.length
 .have ei:=Ac hi
  have ej:=Ac hj
  rw [fW ei,fW ej] at h
  rw [<-h] at ej
  exact AJ hn ei ej
 .have ei:=Ac hi
  rw [fW ei,fX (by omega)] at h
  have:=hb i _ ei
  omega
 .have ej:=Ac hj
  rw [fW ej,fX (by omega)] at h
  have:=hb j _ ej
  omega
 .rw [fX (by omega),fX (by omega)] at h
  omega
theorem NB {ks:List Nat} {base:Nat} {obs:List AObj} (hn:ks.Nodup) (hb:∀ (j k:Nat),ks[j]? =some k->k<base):∀ (l:List AObj) (j:Nat) (acc:List AObj),acc.length=base+(j-ks.length)->
  (iJ ks base obs j l acc).length=base+(j+l.length-ks.length)/\(∀ (t:Nat) o,l[t]? =some o->(iJ ks base obs j l acc)[dA ks base (j+t)]? =some (nX ks base obs (j+t) o))/\
   ∀ i,(∀ t,t<l.length->dA ks base (j+t)≠i)->i<acc.length->(iJ ks base obs j l acc)[i]? =acc[i]?:=by
 intro l
 induction l with
 | nil=>intro j acc hl;exact ⟨by simpa [iJ] using hl,fun t o h=>by simp at h,fun i _ _=>rfl⟩
 | cons o r ih=>
  intro j acc hl
  simp only [iJ]
  have hput:(bK acc (dA ks base j) (nX ks base obs j o)).length=base+(j+1-ks.length)/\(bK acc (dA ks base j) (nX ks base obs j o))[dA ks base j]? =some (nX ks base obs j o)/\
    ∀ i,dA ks base j≠i->i<acc.length->(bK acc (dA ks base j) (nX ks base obs j o))[i]? =acc[i]?:=by
   by_cases hj:j<ks.length
   .have ej:=Ac hj
    have hlt:=hb j _ ej
    rw [fW ej,fS _ (by omega)]
    exact ⟨by simp;omega,Ax (by omega),fun i hi _=>Bd hi⟩
   .rw [fX (by omega),<-hl,EE]
    exact ⟨by simp;omega,by simp,fun i _ hi=>Ah hi⟩
  obtain ⟨p1,p2,p3⟩:=hput
  obtain ⟨q1,q2,q3⟩:=ih (j+1) _ p1
  have hlt:dA ks base j<(bK acc (dA ks base j) (nX ks base obs j o)).length:=(Ab.1 p2).1
  refine ⟨by rw [q1];simp;omega,fun t o' ht=>?_,fun i hi hlt'=>?_⟩
  .cases t with
   | zero=>
    simp at ht
    subst ht
    show (iJ ks base obs (j+1) r (bK acc (dA ks base j) (nX ks base obs j o)))[dA ks base j]? =some (nX ks base obs j o)
    rw [q3 _ (fun t _ e=>?_) hlt,p2]
    have:=S6 hn hb e
    omega
   | succ t=>
    have:=q2 t o' (by simpa using ht)
    rwa [show j+1+t=j+(t+1) from by omega] at this
  .rw [q3 i (fun t ht=>?_) (by
    by_cases hj:j<ks.length
    .rw [p1];rw [hl] at hlt';omega
    .rw [p1];rw [hl] at hlt';omega),p3 i (hi 0 (by simp)) hlt']
   have:=hi (t+1) (by simpa using ht)
   rwa [show j+(t+1)=j+1+t from by omega] at this
def gM (ks:List Nat) (ob obK:Hs):Hs:=
 (Dc ob.length).map (fun k=>match pos k 0 ks with | some j=>ob.getD k []++(obK.getD j []).drop 1 | none=>ob.getD k [])++obK.drop ks.length
theorem QD {ks:List Nat} (hn:ks.Nodup) {j k:Nat} (h:ks[j]? =some k):pos k 0 ks=some j:=by
 have gen:∀ (ks:List Nat) (j i:Nat),ks.Nodup->ks[j]? =some k->pos k i ks=some (i+j):=by
  intro ks
  induction ks with
  | nil=>intro j i _ h;simp at h
  | cons x r ih=>
   intro j i hn h
   rw [Dr] at hn
   simp only [pos]
   cases j with
   | zero=>simp at h;subst h;simp
   | succ j=>
    have hr:r[j]? =some k:=by simpa using h
    have:¬ x=k:=fun e=>hn.1 (e▸Aw hr)
    rw [tJ this]
    simp only [cond_false]
    rw [ih j (i+1) hn.2 hr]
    congr 1
    omega
 simpa using gen ks j 0 hn h
section
variable {M M':Imm} {ob obK':Hs} {obs obs':List AObj} {w w':World}
theorem Mem.embAt (h:Mem M ob obs w) {ks:List Nat} (hk:lE ks obs=true) (hle:dD (dJ 0 ob obs 0 ks) obK') {j g:Nat} {v:Value} (hv:at' obK' j g=some v):
  at' (gM ks ob obK') (dA ks obs.length j) (iK ks obs j g)=some v:=by
 obtain ⟨k1,k2⟩:=lD hk
 have hjl:∃ hs,obK'[j]? =some hs/\hs[g]? =some v:=by
  unfold at' at hv
  cases hq:obK'[j]? with
  | none=>rw [hq] at hv;cases hv
  | some hs=>rw [hq] at hv;exact ⟨hs,rfl,hv⟩
 obtain ⟨hs,hj,hg⟩:=hjl
 by_cases hlt:j<ks.length
 .have ej:=Ac hlt
  have ho:=k1 j _ ej
  have hko:ks[j]<ob.length:=by rw [h.len];exact (Ab.1 (dY ho)).1
  have hh:ob[ks[j]]? =some ob[ks[j]]:=Ac hko
  have hl:=h.histLen ho hh
  have ecut:(dJ 0 ob obs 0 ks)[j]? =some (fY 0 j (aE obs ks[j]) ob[ks[j]]):=by rw [eZ,ej];simp [hh]
  obtain ⟨hs',e1,t,e2⟩:=hle j _ ecut
  rw [hj] at e1
  cases e1
  have hcl:(fY 0 j (aE obs ks[j]) ob[ks[j]]).length=1:=by rw [nZ hl];simp
  have hc0:(fY 0 j (aE obs ks[j]) ob[ks[j]])[0]? =ob[ks[j]][dE (aE obs ks[j])]?:=rQ hl (by rw [mA];simp)
  have eE:(gM ks ob obK')[ks[j]]? =some (ob[ks[j]]++hs.drop 1):=by
   unfold gM
   rw [Ah (by simp;omega),Bb,Cm hko]
   simp [QD k2 ej,hh,hj]
  rw [fW ej,bT eE]
  have hgG:iK ks obs j g=dE (aE obs ks[j])+g:=by simp [iK,kH,ej]
  rw [hgG]
  cases g with
  | zero=>
   rw [Dk,Ah (by omega),<-hc0,<-hg,<-e2,Ah (by omega)]
  | succ g=>
   rw [Aq (by omega),Bu,<-hg]
   congr 1
   omega
 .have eE:(gM ks ob obK')[obs.length+(j-ks.length)]? =some hs:=by
   unfold gM
   rw [Aq (by simp;rw [h.len];omega),Bu,<-hj]
   congr 1
   simp [h.len]
   omega
  rw [fX (by omega),bT eE]
  simpa [iK,kH,Bf (show ks.length<=j by omega)] using hg
theorem FQ {M':Imm} {obK' obX:Hs} {ks:List Nat} {base:Nat} {obs:List AObj} (hat:∀ {j g:Nat} {v:Value},at' obK' j g=some v->at' obX (dA ks base j) (iK ks obs j g)=some v)
  (g0:∀ {j:Nat} {v:Value},at' obK' j 0=some v->(∃ b,v= .pointer (some ⟨b,0,none⟩))\/(∃ b,v= .map (some b))->at' obX (dA ks base j) 0=some v):
  ∀ (n:Nat) (v:Value) (a:AVal),Rep M' obK' v a->Rep M' obX v (embV ks base obs n a):=by
 intro n
 induction n with
 | zero=>intro v a _;exact .undef v
 | succ n ih=>
  intro v a hr
  have tok:∀ {v:Value} {sz:Nat} {xs:List AVal} {t:Tk},Rep M' obK' v (.slice sz xs t)->Rep M' obX v (AW.embV ks base obs (n+1) (.slice sz xs t)):=by
   intro v sz xs t hr
   obtain ⟨r1,r2⟩:=hr.untok
   have hno:Rep M' obX v (.slice sz xs .no):=r1.slice_pure.pure
   cases t with
   | no=>exact hno
   | nil=>exact hno.tok r2
   | full=>exact hno.tok r2
   | own k g=>exact hno.tok (show at' _ _ _=_ from hat r2)
  cases hr with
  | undef v=>exact .undef v
  | bool b=>exact .bool b
  | int k n hr=>exact .int k n hr
  | str l hl=>exact .str l hl
  | agg vs as hl hr=>
   obtain ⟨h1,h2⟩:=bR (ih) hl hr
   exact .agg vs _ h1 h2
  | tup vs as hl hr=>
   obtain ⟨h1,h2⟩:=bR (ih) hl hr
   exact .tup vs _ h1 h2
  | ptr b o cs hr=>exact .ptr b o cs hr
  | ref k off b hb=>exact .ref _ off b (g0 hb (.inl ⟨b,rfl⟩))
  | eref k g i sz off b n c hb=>exact .undef _
  | rowc k g c a n h hm=>exact .undef _
  | pre k g n c sz b len h hc hn hl hm=>exact .undef _
  | csl k off len sz b hb hm=>exact .csl _ off len sz b (g0 hb (.inl ⟨b,rfl⟩)) hm
  | row k g a n c hb=>exact .row _ _ a n c (hat hb)
  | sub k g lo len sz b n c hb hl hn hc hm=>exact .sub _ _ lo len sz b n c (hat hb) hl hn hc hm
  | sub0 k g lo sz a a' n c hb hl hc=>exact .sub0 _ _ lo sz a a' n c (hat hb) hl hc
  | mref k b hb=>exact .mref _ b (g0 hb (.inr ⟨b,rfl⟩))
  | nilptr=>exact .nilptr
  | nilslice=>exact .nilslice
  | nilmap=>exact .nilmap
  | nilfunc=>exact .nilfunc
  | nilif=>exact .nilif
  | hsl a n c=>exact .hsl a n c
  | slnil sz t ht=>exact tok (.slnil sz t ht)
  | slemp sz t a cap ht=>exact tok (.slemp sz t a cap ht)
  | sl sz b o n cap xs t hn hc hm hz hr ht=>exact tok (.sl sz b o n cap xs t hn hc hm hz hr ht)
  | func fn fs cs fa ca hf hc hr1 hr2=>
   obtain ⟨h1,h2⟩:=bR (ih) hf hr1
   obtain ⟨h3,h4⟩:=bR (ih) hc hr2
   exact .func fn fs cs _ _ h1 h3 h2 h4
  | iface t v a hr=>exact .iface t v _ (ih v a hr)
theorem Mem.embV (h:Mem M ob obs w) {ks:List Nat} (hk:lE ks obs=true) (hle:dD (dJ 0 ob obs 0 ks) obK') (hlen:(dJ 0 ob obs 0 ks).length=ks.length):∀ (n:Nat) (v:Value) (a:AVal),Rep M' obK' v a->
  Rep M' (gM ks ob obK') v (embV ks obs.length obs n a):=by
 have g0:∀ {j:Nat} {v:Value},at' obK' j 0=some v->(∃ b,v= .pointer (some ⟨b,0,none⟩))\/(∃ b,v= .map (some b))->at' (gM ks ob obK') (dA ks obs.length j) 0=some v:=by
  intro j v hv hs
  have:=h.embAt hk hle hv
  by_cases hlt:j<ks.length
  .have ej:=Ac hlt
   have hc:dE (aE obs ks[j])=0:=by
    have ho:=(lD hk).1 j _ ej
    obtain ⟨hs',hh,hok⟩:=h.obj _ _ (dY ho)
    have ecut:(dJ 0 ob obs 0 ks)[j]? =some (fY 0 j (aE obs ks[j]) hs'):=by rw [eZ,ej];simp [hh]
    have hl:=h.histLen ho hh
    have hc0:(fY 0 j (aE obs ks[j]) hs')[0]? =hs'[dE (aE obs ks[j])]?:=rQ hl (by rw [mA];simp)
    have hva:at' (dJ 0 ob obs 0 ks) j 0=some v:=by
     have hne:(fY 0 j (aE obs ks[j]) hs').length=1:=by rw [nZ hl];simp
     have hu:=Ac (l:=fY 0 j (aE obs ks[j]) hs') (i:=0) (by omega)
     generalize (fY 0 j (aE obs ks[j]) hs')[0]=u at hu
     have:=hle.at (ob:=dJ 0 ob obs 0 ks) (k:=j) (g:=0) (v:=u) (by rw [bT ecut];exact hu)
     rw [hv] at this
     cases this
     rw [bT ecut];exact hu
    rw [bT ecut,hc0] at hva
    cases hc:aE obs ks[j] with
    | row g sz e xs=>
     rw [hc] at hok hva
     obtain ⟨_,v',a2,cv,a3,_⟩:=hok
     simp only [dE] at hva
     rw [a2] at hva
     cases hva
     rcases cW a3 with ⟨q,_⟩ | ⟨_,_,q,_⟩<;>rcases hs with ⟨b,hs⟩ | ⟨b,hs⟩<;>(rw [q] at hs;cases hs)
    | tail g sz e=>
     rw [hc] at hok hva
     obtain ⟨_,v',a2,n',cv,a3,_⟩:=hok
     simp only [dE] at hva
     rw [a2] at hva
     cases hva
     rcases cW a3 with ⟨q,_⟩ | ⟨_,_,q,_⟩<;>rcases hs with ⟨b,hs⟩ | ⟨b,hs⟩<;>(rw [q] at hs;cases hs)
    | bun g I=>
     rw [hc] at hok hva
     obtain ⟨_,bs,a2,_⟩:=hok
     simp only [dE] at hva
     rw [a2] at hva
     cases hva
     rcases hs with ⟨b,hs⟩ | ⟨b,hs⟩<;>cases hs
    | _=>rfl
   have hgG:iK ks obs j 0=0:=by simp [iK,kH,ej,hc]
   rwa [hgG] at this
  .have hgG:iK ks obs j 0=0:=by simp [iK,kH,Bf (show ks.length<=j by omega)]
   rwa [hgG] at this
 exact FQ (fun hv=>h.embAt hk hle hv) g0
theorem Mem.emb (h:Mem M ob obs w) {ks:List Nat} (hk:lE ks obs=true) (hx:Ext M (dJ 0 ob obs 0 ks) (gH 0 ks obs) w M' obK' obs' w') (h':Mem M' obK' obs' w'):
  Mem M' (gM ks ob obK') (iJ ks obs.length obs 0 obs' obs) w'/\Ext M ob obs w M' (gM ks ob obK') (iJ ks obs.length obs 0 obs' obs) w'/\∀ (i:Nat) hs,obs[i]? =some .dead->ob[i]? =some hs->(iJ ks obs.length obs 0 obs' obs)[i]? =some .dead/\(gM ks ob obK')[i]? =some hs:=by
 obtain ⟨k1,k2⟩:=lD hk
 obtain ⟨c1,c2,c3⟩:=h.cvt (n0:=0) hk
 have hks:∀ (j k:Nat),ks[j]? =some k->k<obs.length:=fun j k hj=>(Ab.1 (dY (k1 j k hj))).1
 have hcl:(dJ 0 ob obs 0 ks).length=ks.length:=nY
 have hm:ks.length<=obs'.length:=by
  rcases Fz ks.length with h0 | h0
  .omega
  .have:(dJ 0 ob obs 0 ks)[ks.length-1]? =some (dJ 0 ob obs 0 ks)[ks.length-1]:=Ac (by omega)
   obtain ⟨hs',e,_⟩:=hx.hs _ _ this
   have:=(Ab.1 e).1
   rw [h'.len] at this
   omega
 obtain ⟨s1,s2,s3⟩:=NB (base:=obs.length) (obs:=obs) k2 hks obs' 0 obs (by simp)
 simp only [Bk] at s1 s2 s3
 have hEl:(gM ks ob obK').length=obs.length+(obs'.length-ks.length):=by
  unfold gM
  simp [h.len,h'.len]
 -- the objects fG the call:by number
 have cls:∀ {i:Nat},i<(iJ ks obs.length obs 0 obs' obs).length->(∃ j,j<obs'.length/\i=dA ks obs.length j)\/(i<obs.length/\(∀ j,j<obs'.length->dA ks obs.length j≠i)):=by
  intro i hi
  rw [s1] at hi
  by_cases hlt:i<obs.length
  .by_cases hin:∃ j,j<obs'.length/\i=dA ks obs.length j
   .exact .inl hin
   .exact .inr ⟨hlt,fun j hj e=>hin ⟨j,hj,e.symm⟩⟩
  .refine .inl ⟨ks.length+(i-obs.length),by omega,?_⟩
   rw [fX (by omega)]
   omega
 have oldE:∀ {i:Nat},i<obs.length->(∀ j,j<obs'.length->dA ks obs.length j≠i)->(iJ ks obs.length obs 0 obs' obs)[i]? =obs[i]?/\(gM ks ob obK')[i]? =ob[i]?:=by
  intro i hi hne
  refine ⟨s3 i hne hi,?_⟩
  have hib:i<ob.length:=by rw [h.len];exact hi
  have hp:pos i 0 ks=none:=by
   cases hq:pos i 0 ks with
   | none=>rfl
   | some j=>
    have:=JW hq
    exact absurd (fW this) (hne j (by have:=(Ab.1 this).1;omega))
  unfold gM
  rw [Ah (by simp;omega),Bb,Cm hib]
  simp [hp,Ac hib]
 have newE:∀ {j:Nat} {o:AObj},obs'[j]? =some o->∃ hs hs',obK'[j]? =some hs/\gD M' obK' w' hs o/\(iJ ks obs.length obs 0 obs' obs)[dA ks obs.length j]? =some (nX ks obs.length obs j o)/\(gM ks ob obK')[dA ks obs.length j]? =some hs'/\
   hs'.length=(match ks[j]? with | some k=>dE (aE obs k) | none=>0)+hs.length/\(o.owns=true->blk hs'=blk hs)/\(∀ (g:Nat) v,hs[g]? =some v->hs'[iK ks obs j g]? =some v):=by
  intro j o hj
  obtain ⟨hs,hh,hok⟩:=h'.obj j o hj
  have hat:∀ (g:Nat) v,hs[g]? =some v->at' (gM ks ob obK') (dA ks obs.length j) (iK ks obs j g)=some v:=fun g v hg=>h.embAt hk hx.hs (by rw [bT hh];exact hg)
  by_cases hlt:j<ks.length
  .have ej:=Ac hlt
   have ho:=k1 j _ ej
   have hko:ks[j]<ob.length:=by rw [h.len];exact (Ab.1 (dY ho)).1
   have hhb:ob[ks[j]]? =some ob[ks[j]]:=Ac hko
   have hl:=h.histLen ho hhb
   have ecut:(dJ 0 ob obs 0 ks)[j]? =some (fY 0 j (aE obs ks[j]) ob[ks[j]]):=by rw [eZ,ej];simp [hhb]
   obtain ⟨hs2,e1,t,e2⟩:=hx.hs j _ ecut
   rw [hh] at e1
   cases e1
   have hc1:(fY 0 j (aE obs ks[j]) ob[ks[j]]).length=1:=by rw [nZ hl];simp
   have hpos:1<=hs.length:=by rw [<-e2];simp;omega
   have eE:(gM ks ob obK')[ks[j]]? =some (ob[ks[j]]++hs.drop 1):=by
    unfold gM
    rw [Ah (by simp;omega),Bb,Cm hko]
    simp [QD k2 ej,hhb,hh]
   refine ⟨hs,_,hh,hok,s2 j o hj,by rw [fW ej];exact eE,by rw [ej];simp;omega,fun _=>?_,fun g v hg=>?_⟩
   .unfold blk
    rw [Kj]
    by_cases h2:1<hs.length
    .rw [List.getLast?_drop,if_neg (by omega)]
     have hne:hs≠[]:=fun e=>by subst e;simp at hpos
     rw [Hx hne]
     rfl
    .have:hs.drop 1=[]:=Af (by omega)
     rw [this]
     simp only [List.getLast?_nil,Option.none_or]
     have h1l:hs.length=1:=by omega
     have ht:t=[]:=by
      have:=congrArg Hu e2
      simp at this
      exact Au (by omega)
     subst ht
     rw [Ay] at e2
     rw [<-e2,tD hl]
   .have:=hat g v hg
    rw [fW ej,bT eE] at this
    exact this
  .have hjl:j<obK'.length:=(Ab.1 hh).1
   have eE:(gM ks ob obK')[obs.length+(j-ks.length)]? =some hs:=by
    unfold gM
    rw [Aq (by simp;rw [h.len];omega),Bu,<-hh]
    congr 1
    simp [h.len]
    omega
   refine ⟨hs,hs,hh,hok,s2 j o hj,by rw [fX (by omega)];exact eE,by rw [Bf (by omega)];simp,fun _=>rfl,fun g v hg=>?_⟩
   simpa [iK,kH,Bf (show ks.length<=j by omega)] using hg
 have ownsE:∀ j o,(nX ks obs.length obs j o).owns=o.owns:=fun j o=>by cases o<;>rfl
 have aliveE:∀ {i b:Nat},aM (gM ks ob obK') (iJ ks obs.length obs 0 obs' obs) i b->(∃ j,i=dA ks obs.length j/\aM obK' obs' j b)\/((∀ j,j<obs'.length->dA ks obs.length j≠i)/\aM ob obs i b):=by
  rintro i b ⟨c,hs,e1,e2,e3,e4⟩
  rcases cls (Ab.1 e1).1 with ⟨j,hj,rfl⟩ | ⟨hi,hne⟩
  .obtain ⟨hs1,hs2,g1,g2,g3,g4,_,g5,_⟩:=newE (Ac hj)
   rw [g3] at e1
   rw [g4] at e3
   cases e1
   cases e3
   rw [ownsE] at e2
   exact .inl ⟨j,rfl,(cI (Ac hj) g1).2 ⟨e2,by rw [<-g5 e2];exact e4⟩⟩
  .obtain ⟨o1,o2⟩:=oldE hi hne
   rw [o1] at e1
   rw [o2] at e3
   exact .inr ⟨hne,c,hs,e1,e2,e3,e4⟩
 have hle:dD ob (gM ks ob obK'):=by
  intro i hs hi
  have hib:=(Ab.1 hi).1
  cases hq:pos i 0 ks with
  | none=>
   refine ⟨hs,?_,Cr _⟩
   unfold gM
   rw [Ah (by simp;omega),Bb,Cm hib]
   simp [hq,hi]
  | some j=>
   refine ⟨hs++(obK'.getD j []).drop 1,?_,⟨_,rfl⟩⟩
   unfold gM
   rw [Ah (by simp;omega),Bb,Cm hib]
   simp [hq,hi]
 have hnotAlive:∀ {i b:Nat},(∀ j,j<obs'.length->dA ks obs.length j≠i)->aM ob obs i b->(∀ j,¬ aM (dJ 0 ob obs 0 ks) (gH 0 ks obs) j b)/\b<w.heap.size:=by
  intro i b hne ha
  refine ⟨fun j hj=>?_,h.lt i b ha⟩
  obtain ⟨k,hk',ha'⟩:=c2 j b hj
  have:=h.inj i k b ha ha'
  subst this
  exact hne j (by have:=(Ab.1 hk').1;omega) (fW hk')
 refine ⟨⟨h'.imm,by rw [hEl,s1],fun i c hc=>?_,fun i b ha=>?_,fun i i' b ha hb=>?_⟩,⟨hx.imm,fun b o y hy=>?_,hle,hx.os,hx.tape,hx.output,hx.size,fun b hb hn=>hx.keep b hb fun j hj=>?_,fun i b ha=>?_⟩,fun i hs hd hh=>?_⟩
 .rcases cls (Ab.1 hc).1 with ⟨j,hj,rfl⟩ | ⟨hi,hne⟩
  .obtain ⟨hs1,hs2,g1,g2,g3,g4,g5,g6,g7⟩:=newE (Ac hj)
   rw [g3] at hc
   cases hc
   refine ⟨hs2,g4,?_⟩
   have one0:∀ {p:Value},hs1=[p]->hs1.length=1->(match ks[j]? with | some k=>dE (aE obs k) | none=>0)=0\/True:=fun _ _=>.inr trivial
   have single:∀ {b:Nat} {p:Value},hs1=[p]->((∃ q,p= .pointer (some ⟨q,0,none⟩))\/(∃ q,p= .map (some q)))->hs2=[p]:=by
    intro b p e hp
    have hcur:(match ks[j]? with | some k=>dE (aE obs k) | none=>0)=0:=by
     cases hq:ks[j]? with
     | none=>rfl
     | some k=>
      have hgg:=g7 0 p (by rw [e];rfl)
      have ho:=k1 j k hq
      obtain ⟨hsk,hhk,hok⟩:=h.obj k _ (dY ho)
      have hl:=h.histLen ho hhk
      have ecut:(dJ 0 ob obs 0 ks)[j]? =some (fY 0 j (aE obs k) hsk):=by rw [eZ,hq];simp [hhk]
      obtain ⟨hs3,e1,t,e2⟩:=hx.hs j _ ecut
      rw [g1] at e1
      cases e1
      have hc1:(fY 0 j (aE obs k) hsk).length=1:=by rw [nZ hl];simp
      have hc0:(fY 0 j (aE obs k) hsk)[0]? =hsk[dE (aE obs k)]?:=rQ hl (by rw [mA];simp)
      have hlast:hsk[dE (aE obs k)]? =some p:=by
       rw [<-hc0]
       have:hs1[0]? =some p:=by rw [e];rfl
       rw [<-e2,Ah (by omega)] at this
       exact this
      show dE (aE obs k)=0
      cases hc:aE obs k with
      | row g sz e xs=>
       rw [hc] at hok hlast
       obtain ⟨_,v',a2,cv,a3,_⟩:=hok
       simp only [dE] at hlast
       rw [a2] at hlast
       cases hlast
       rcases cW a3 with ⟨q,_⟩ | ⟨_,_,q,_⟩<;>rcases hp with ⟨b,hp⟩ | ⟨b,hp⟩<;>(rw [q] at hp;cases hp)
      | tail g sz e=>
       rw [hc] at hok hlast
       obtain ⟨_,v',a2,n',cv,a3,_⟩:=hok
       simp only [dE] at hlast
       rw [a2] at hlast
       cases hlast
       rcases cW a3 with ⟨q,_⟩ | ⟨_,_,q,_⟩<;>rcases hp with ⟨b,hp⟩ | ⟨b,hp⟩<;>(rw [q] at hp;cases hp)
      | bun g I=>
       rw [hc] at hok hlast
       obtain ⟨_,bs,a2,_⟩:=hok
       simp only [dE] at hlast
       rw [a2] at hlast
       cases hlast
       rcases hp with ⟨b,hp⟩ | ⟨b,hp⟩<;>cases hp
      | _=>rfl
    rw [hcur,e] at g5
    have hgg:=g7 0 p (by rw [e];rfl)
    have hG:iK ks obs j 0=0:=by
     unfold iK
     rw [kH]
     cases hq:ks[j]? with
     | none=>rfl
     | some k=>rw [hq] at hcur;simpa using hcur
    rw [hG] at hgg
    match hs2,g5,hgg with
    | [x],_,hgg=>simp at hgg;rw [hgg]
   have hlenG:∀ g,hs1.length=g+1->hs2.length=iK ks obs j g+1:=fun g hg=>by
    rw [g5,hg]
    unfold iK
    rw [kH]
    cases ks[j]? with
    | none=>simp
    | some k=>simp;omega
   cases hc:obs'[j] with
   | dead=>exact trivial
   | cells T cs=>
    rw [hc] at g2
    obtain ⟨b,rfl,a1,cv,a2,a3,a4,a5⟩:=g2
    obtain ⟨m1,m2⟩:=bR (h.embV (M':=M') hk hx.hs hcl 4) a3 a5
    exact ⟨b,single (b:=b) rfl (.inl ⟨b,rfl⟩),a1,cv,a2,m1,a4,m2⟩
   | fcells cs=>
    rw [hc] at g2
    obtain ⟨b,rfl,a1⟩:=g2
    exact ⟨b,single (b:=b) rfl (.inl ⟨b,rfl⟩),a1⟩
   | row g sz e xs=>
    rw [hc] at g2
    obtain ⟨a1,v,a2,a3⟩:=g2
    exact ⟨hlenG g a1,v,g7 g v a2,a3⟩
   | frow g sz xs=>
    rw [hc] at g2
    obtain ⟨v,a2,a3⟩:=g2
    exact ⟨v,g7 g v a2,a3⟩
   | tail g sz e=>
    rw [hc] at g2
    obtain ⟨a1,v,a2,a3⟩:=g2
    exact ⟨hlenG g a1,v,g7 g v a2,a3⟩
   | mp ag es=>
    rw [hc] at g2
    obtain ⟨b,rfl,a1,a2⟩:=g2
    exact ⟨b,single (b:=b) rfl (.inr ⟨b,rfl⟩),a1,a2⟩
   | bun g I=>
    rw [hc] at g2
    obtain ⟨a1,v,a2,a3⟩:=g2
    exact ⟨hlenG g a1,v,g7 g _ a2,a3⟩
  .obtain ⟨o1,o2⟩:=oldE hi hne
   rw [o1] at hc
   obtain ⟨hs,hh,hok⟩:=h.obj i c hc
   refine ⟨hs,by rw [o2];exact hh,hok.mono hx.imm hle (fun b p1 p2 o hno y hy=>?_) (fun b c' p1 p2 hc'=>?_)⟩
   .obtain ⟨n1,n2⟩:=hnotAlive hne ((cI hc hh).2 ⟨p1,p2⟩)
    rcases hx.new b o y hy with q | q | ⟨j,q⟩
    .exact hno y q
    .omega
    .exact n1 j q
   .obtain ⟨n1,n2⟩:=hnotAlive hne ((cI hc hh).2 ⟨p1,p2⟩)
    rw [hx.keep b n2 n1]
    exact hc'
 .rcases aliveE ha with ⟨j,_,ha⟩ | ⟨_,ha⟩
  .exact h'.lt j b ha
  .exact Dn (h.lt i b ha) hx.size
 .have cross:∀ {i j:Nat},(∀ j,j<obs'.length->dA ks obs.length j≠i)->aM ob obs i b->aM obK' obs' j b->False:=by
   intro i j hne ha hb
   obtain ⟨n1,n2⟩:=hnotAlive hne ha
   rcases hx.fresh j b hb with ⟨j',q⟩ | q
   .exact n1 j' q
   .omega
  rcases aliveE ha with ⟨j,e1,ha2⟩ | ⟨hne,ha2⟩<;>rcases aliveE hb with ⟨j',e2,hb2⟩ | ⟨hne',hb2⟩
  .rw [e1,e2,h'.inj j j' b ha2 hb2]
  .exact (cross hne' hb2 ha2).elim
  .exact (cross hne ha2 hb2).elim
  .exact h.inj i i' b ha2 hb2
 .rcases hx.new b o y hy with q | q | ⟨j,q⟩
  .exact .inl q
  .exact .inr (.inl q)
  .obtain ⟨k,_,ha⟩:=c2 j b q
   exact .inr (.inr ⟨k,ha⟩)
 .obtain ⟨k,_,ha⟩:=c2 j b hj
  exact hn k ha
 .rcases aliveE ha with ⟨j,_,ha⟩ | ⟨_,ha⟩
  .rcases hx.fresh j b ha with ⟨j',q⟩ | q
   .obtain ⟨k,_,ha'⟩:=c2 j' b q
    exact .inl ⟨k,ha'⟩
   .exact .inr q
  .exact .inl ⟨i,ha⟩
 .have hi:=(Ab.1 hd).1
  have hne:∀ j,j<obs'.length->dA ks obs.length j≠i:=by
   intro j hj e
   by_cases hlt:j<ks.length
   .have ej:=Ac hlt
    rw [fW ej] at e
    have ho:=k1 j _ ej
    rw [e,eR hd] at ho
    cases ho
   .rw [fX (by omega)] at e
    omega
  obtain ⟨o1,o2⟩:=oldE hi hne
  rw [o1,o2]
  exact ⟨hd,hh⟩
end
section
variable {M M':Imm} {ob ob':Hs} {obs obs1 obs1' obs':List AObj} {w w':World}
def IU (obs1 obs:List AObj):Prop:=obs1.length=obs.length/\∀ (k:Nat),obs1[k]? =obs[k]?\/obs1[k]? =some .dead
theorem IU.alive (h:IU obs1 obs) {k b:Nat} (ha:aM ob obs1 k b):aM ob obs k b:=by
 obtain ⟨c,hs,e1,e2,e3,e4⟩:=ha
 rcases h.2 k with q | q
 .rw [q] at e1;exact ⟨c,hs,e1,e2,e3,e4⟩
 .rw [q] at e1;cases e1;cases e2
theorem Mem.weak (h:Mem M ob obs w) (hw:IU obs1 obs):Mem M ob obs1 w:=by
 refine ⟨h.imm,h.len.trans hw.1.symm,fun k c hc=>?_,fun k b ha=>h.lt k b (hw.alive ha),fun i j b ha hb=>h.inj i j b (hw.alive ha) (hw.alive hb)⟩
 rcases hw.2 k with q | q
 .rw [q] at hc;exact h.obj k c hc
 .rw [q] at hc
  cases hc
  have hlt:k<ob.length:=by rw [h.len,<-hw.1];exact (Ab.1 q).1
  exact ⟨ob[k],Ac hlt,trivial⟩
theorem Mem.revive (h:Mem M ob obs w) (hw:IU obs1 obs) (hx:Ext M ob obs1 w M' ob' obs1' w') (hs:cF ob obs1 ob' obs1') (h':Mem M' ob' obs1' w') (hl:obs'.length=obs1'.length)
  (ho:∀ (k:Nat) c,obs'[k]? =some c->obs1'[k]? =some c\/(obs1[k]? =some .dead/\(∃ hs,ob[k]? =some hs/\hs≠[])/\obs[k]? =some c)):
  Mem M' ob' obs' w'/\Ext M ob obs w M' ob' obs' w'/\cF ob obs ob' obs':=by
 have alive':∀ {k b:Nat},aM ob' obs' k b->aM ob' obs1' k b\/(obs1[k]? =some .dead/\aM ob obs k b):=by
  rintro k b ⟨c,hs',e1,e2,e3,e4⟩
  rcases ho k c e1 with q | ⟨q1,⟨hs2,q2,q3⟩,q4⟩
  .exact .inl ⟨c,hs',q,e2,e3,e4⟩
  .have:=((hs k hs2 q1 q2).1 q3).2
   rw [e3] at this
   cases this
   exact .inr ⟨q1,c,hs',q4,e2,q2,e4⟩
 have noal:∀ {k b:Nat},obs1[k]? =some .dead->aM ob obs k b->∀ j,¬ aM ob obs1 j b:=by
  intro k b hk ha j hj
  have:=h.inj k j b ha (hw.alive hj)
  subst this
  obtain ⟨c,_,e1,e2,_⟩:=hj
  rw [hk] at e1
  cases e1
  cases e2
 refine ⟨⟨h'.imm,h'.len.trans hl.symm,fun k c hc=>?_,fun k b ha=>?_,fun i j b ha hb=>?_⟩,⟨hx.imm,fun b o y hy=>?_,hx.hs,hx.os,hx.tape,hx.output,hx.size,fun b hb hn=>hx.keep b hb fun j hj=>hn j (hw.alive hj),fun k b ha=>?_⟩,fun k hs' h1 h2=>⟨fun h3=>?_,fun h3 h4=>?_⟩⟩
 .rcases ho k c hc with q | ⟨q1,⟨hs2,q2,q3⟩,q4⟩
  .exact h'.obj k c q
  .obtain ⟨hs3,e1,hok⟩:=h.obj k c q4
   rw [q2] at e1
   cases e1
   refine ⟨hs2,((hs k hs2 q1 q2).1 q3).2,hok.mono hx.imm hx.hs (fun b p1 p2 o hno y hy=>?_) (fun b c' p1 p2 hc'=>?_)⟩
   .have ha:aM ob obs k b:=(cI q4 q2).2 ⟨p1,p2⟩
    rcases hx.new b o y hy with q | q | ⟨j,q⟩
    .exact hno y q
    .have:=h.lt k b ha;omega
    .exact noal q1 ha j q
   .have ha:aM ob obs k b:=(cI q4 q2).2 ⟨p1,p2⟩
    rw [hx.keep b (h.lt k b ha) (noal q1 ha)]
    exact hc'
 .rcases alive' ha with q | ⟨_,q⟩
  .exact h'.lt k b q
  .exact Dn (h.lt k b q) hx.size
 .have cross:∀ {i j:Nat},aM ob' obs1' i b->obs1[j]? =some .dead->aM ob obs j b->False:=fun {i j} p q r=>by
   rcases hx.fresh i b p with ⟨i',t⟩ | t
   .exact noal q r i' t
   .have:=h.lt j b r;omega
  rcases alive' ha with q | ⟨q1,q⟩<;>rcases alive' hb with r | ⟨r1,r⟩
  .exact h'.inj i j b q r
  .exact (cross q r1 r).elim
  .exact (cross r q1 q).elim
  .exact h.inj i j b q r
 .rcases hx.new b o y hy with q | q | ⟨j,q⟩
  .exact .inl q
  .exact .inr (.inl q)
  .exact .inr (.inr ⟨j,hw.alive q⟩)
 .rcases alive' ha with q | ⟨_,q⟩
  .rcases hx.fresh k b q with ⟨j,t⟩ | t
   .exact .inl ⟨j,hw.alive t⟩
   .exact .inr t
  .exact .inl ⟨k,q⟩
 .have hd1:obs1[k]? =some .dead:=by
   rcases hw.2 k with q | q
   .rw [q];exact h1
   .exact q
  obtain ⟨g1,g2⟩:=(hs k hs' hd1 h2).1 h3
  refine ⟨?_,g2⟩
  have hlt:k<obs'.length:=by rw [hl];exact (Ab.1 g1).1
  rcases ho k _ (Ac hlt) with q | ⟨_,_,q⟩
  .rw [g1] at q;rw [Ac hlt,<-q]
  .rw [h1] at q;rw [Ac hlt,<-q]
 .have hd1:obs1[k]? =some .dead:=by
   rcases hw.2 k with q | q
   .rw [q];exact h1
   .exact q
  rcases ho k _ h4 with q | ⟨_,⟨hs2,q2,q3⟩,_⟩
  .exact (hs k hs' hd1 h2).2 h3 q
  .rw [h2] at q2;cases q2;exact absurd h3 q3
end
def aU (P:Program) (t:TypeId):Bool:=match P.underlying t with | some (.struct _) | some (.array _ _)=>true | _=>false
def lP (P:Program):List Field->List (Nat×Nat×Bool)->Prop
 | [],[]=>True
 | f::fs,(off,sz,ag)::r=>f.offset=off/\(P.info? f.type).map (·.size)=some sz/\(P.underlying f.type).isSome=true/\aU P f.type=ag/\lP P fs r
 | _,_=>False
def qC (P:Program) (t:Nat) (ag:Bool) (size:Nat):TK->Prop
 | .int k=>P.underlying t=some (.int k)/\ag=false/\size=1
 | .bool=>P.underlying t=some .bool/\ag=false/\size=1
 | .str=>P.underlying t=some .string/\ag=false/\size=1
 | .strct fs=>(∃ flds,P.underlying t=some (.struct flds)/\lP P flds.toList fs)/\ag=true
 | .arr n esz ea=>(∃ e,P.underlying t=some (.array n e)/\(P.info? e).map (·.size)=some esz/\(P.underlying e).isSome=true/\aU P e=ea)/\ag=true
 | .slc e esz eb=>(P.underlying t=some (.slice e)/\∃ i z,P.info? e=some i/\i.size=esz/\i.bytes=eb/\i.zero=some z/\z.cells.size=esz/\z.cells.toList.all (·.oneCell')=true)/\ag=false/\size=1
 | .ptr e=>P.underlying t=some (.pointer e)/\ag=false/\size=1
 | .iface=>(∃ ms,P.underlying t=some (.interface ms))/\ag=false/\size=1
 | .mp k e=>P.underlying t=some (.map k e)/\ag=false/\size=1
 | .other=>(∃ d,P.underlying t=some d/\(∀ ms,d≠ .interface ms))/\aU P t=ag
structure TIOK (P:Program) (t:Nat) (ti:TI):Prop where
 info:∃ i z,P.info? t=some i/\i.size=ti.size/\i.zero=some z/\z.cells.size=ti.size/\Rep (fun _ _ _=>False) [] z ti.zero/\z.cells.toList.all (·.oneCell')=true/\ti.zero≠ .undef
 kind:qC P t ti.agg ti.size ti.kind
def aBr (P:Program) (t n:Nat):Prop:=∀ (w:World) (x y:Operand) (xs ys:List AVal) (vs us:List Value) (c:Bool),ceq xs ys=some c->xs.length=n->
 cB (fun _ _ _=>False) [] vs xs->cB (fun _ _ _=>False) [] us ys->
 (∀ op,(eqGuard op t x y (.agg vs.toArray) (.agg us.toArray)).run P w= .ok () w)/\(Op.equal t (.agg vs.toArray) (.agg us.toArray)).run P w= .ok c w
def C9 (P:Program) (t n:Nat):Prop:=∀ (w:World) (a b:List Int),a.length=n->b.length=n->(Op.equal t (eJ true a) (eJ true b)).run P w= .ok (decide (a=b)) w/\∀ em,(Fw em 10000 t (eJ true a)).run P w= .ok () w
def IX (P:Program) (t n:Nat):Prop:=aBr P t n/\C9 P t n
structure EnvOK (E:Env):Prop where
 mix:E.P.follows .mixedOrders=true
 tab:∀ t ti,cL E.T t=some ti->TIOK E.P t ti
 mth:∀ t name g,Q9 E.mt t name=some g->∀ v w,(method (E.P.types.size+Made.depth) t v name).run E.P w= .ok (g,v) w
 fl:∀ t,0<uQ E.fl t->IX E.P t (uQ E.fl t)
theorem qC.isAgg {P:Program} {t:Nat} {ag:Bool} {size:Nat} {k:TK} (h:qC P t ag size k):(P.underlying t).isSome=true/\aU P t=ag:=by
 cases k with
 | strct fs=>obtain ⟨⟨f,h1,_⟩,h2⟩:=h;simp [aU,h1,h2]
 | arr n esz ea=>obtain ⟨⟨f,h1,_⟩,h2⟩:=h;simp [aU,h1,h2]
 | slc e a b=>obtain ⟨⟨h1,_⟩,h2,_⟩:=h;simp [aU,h1,h2]
 | iface=>obtain ⟨⟨ms,h1⟩,h2,_⟩:=h;simp [aU,h1,h2]
 | other=>obtain ⟨⟨d,h1,_⟩,h2⟩:=h;exact ⟨by simp [h1],h2⟩
 | _=>obtain ⟨h1,h2,_⟩:=h;simp [aU,h1,h2]
theorem sD {P:Program} {t:Nat} (h:(P.underlying t).isSome=true) (w:World):(isAgg t).run P w= .ok (aU P t) w:=by
 obtain ⟨d,hd⟩:=Ct.1 h
 unfold isAgg
 simp only [Av,run_underlying hd,Ak,aU,hd]
 cases d<;>rfl
theorem run_sizeOf {P:Program} {t:Nat} {s:Nat} (h:(P.info? t).map (·.size)=some s) (w:World):(sizeOf t).run P w= .ok s w:=by
 obtain ⟨i,hi,rfl⟩:=Bx.1 h
 simp [sizeOf,typeInfo,hi]
theorem TIOK.size? {P:Program} {t:Nat} {ti:TI} (h:TIOK P t ti):(P.info? t).map (·.size)=some ti.size:=by
 obtain ⟨i,z,hi,hsz,_⟩:=h.info
 simp [hi,hsz]
theorem lP.get {P:Program}:∀ {flds:List Field} {fs:List (Nat×Nat×Bool)},lP P flds fs->∀ {i:Nat} {off sz:Nat} {ag:Bool},nth fs i=some (off,sz,ag)->
  ∃ f,flds[i]? =some f/\f.offset=off/\(P.info? f.type).map (·.size)=some sz/\(P.underlying f.type).isSome=true/\aU P f.type=ag
 | [],[],_,i,_,_,_,hn=>by cases i<;>cases hn
 | [],_::_,h,_,_,_,_,_=>h.elim
 | _::_,[],h,_,_,_,_,_=>h.elim
 | f::flds,(off',sz',ag')::fs,h,i,off,sz,ag,hn=>by
  obtain ⟨h1,h2,h3,h4,h5⟩:=h
  cases i with
  | zero=>cases hn;exact ⟨f,rfl,h1,h2,h3,h4⟩
  | succ i=>
   obtain ⟨g,hg,r⟩:=h5.get (show nth fs i=_ from hn)
   exact ⟨g,by simpa using hg,r⟩
theorem gZ {M:Imm} {ob:Hs} {z:Value} {a:AVal} (h:Rep (fun _ _ _=>False) [] z a):Rep M ob z a:=h.mono (fun _ _ _ h=>h.elim) (E3 ob)
def Sd (VS:AVal->List AObj->Prop) (CS:Fn->List AVal->Prop) (PS:AVal->Prop) (obs:List AObj) (base:Nat):OR->Prop
 | .no=>True
 | .val v=>VS v obs
 | .mkf fn fs cs=>VS (.func fn fs cs) obs
 | .need p r=>p->Sd VS CS PS obs base r
 | .alt p v w=>(p->VS v obs)/\VS w obs
 | .idx n f=>∀ i:Nat,n=(i:Int)->Sd VS CS PS obs base (f i)
 | .elem xs i f=>∀ x,xs[i]? =some x->Sd VS CS PS obs base (f x)
 | .byte l i=>∀ c,l[i]? =some c->VS (.int .u8 (c.toNat:Int)) obs
 | .text xs=>∀ l:List UInt8,xs=l.map ub->(l.length:Int)<=9223372036854775807->VS (.str l) obs
 | .find es key f=>Sd VS CS PS obs base (f (bL es key))
 | .born x v=>VS v (bK obs base x)
 | .upd k x v=>VS v (bK obs k x)
 | .nilq xs neg=>∃ b:Bool,(b=true->xs=[])/\VS (.bool (if neg then !b else b)) obs
 | .call f args=>CS f args
 | .pan v=>PS v
theorem Sd.mono {VS VS':AVal->List AObj->Prop} {CS CS':Fn->List AVal->Prop} {PS PS':AVal->Prop} {obs:List AObj} {base:Nat} (h1:∀ v o,VS v o->VS' v o) (h2:∀ f a,CS f a->CS' f a) (h3:∀ v,PS v->PS' v):
  ∀ {r:OR},Sd VS CS PS obs base r->Sd VS' CS' PS' obs base r
 | .no,_=>trivial
 | .val v,h=>h1 _ _ h
 | .mkf fn fs cs,h=>h1 _ _ h
 | .need p r,h=>fun hp=>Sd.mono h1 h2 h3 (h hp)
 | .alt p v w,h=>⟨fun hp=>h1 _ _ (h.1 hp),h1 _ _ h.2⟩
 | .idx n f,h=>fun i hi=>Sd.mono h1 h2 h3 (h i hi)
 | .elem xs i f,h=>fun x hx=>Sd.mono h1 h2 h3 (h x hx)
 | .byte l i,h=>fun c hc=>h1 _ _ (h c hc)
 | .text xs,h=>fun l hl hb=>h1 _ _ (h l hl hb)
 | .find es key f,h=>Sd.mono (r:=f (bL es key)) h1 h2 h3 h
 | .born x v,h=>h1 _ _ h
 | .upd k x v,h=>h1 _ _ h
 | .nilq xs neg,⟨b,hb,h⟩=>⟨b,hb,h1 _ _ h⟩
 | .call f args,h=>h2 _ _ h
 | .pan v,h=>h3 _ h
def PV (P:Program) (M:Imm) (ob:Hs) (w:World) (s:Sem Value) (obs:List AObj) (v:AVal) (o:List AObj):Prop:=o=obs/\∃ u,s.run P w= .ok u w/\Rep M ob u v
abbrev PS0 (P:Program) (M:Imm) (ob:Hs) (w:World) (s:Sem Value) (obs:List AObj) (base:Nat) (r:OR):Prop:=Sd (PV P M ob w s obs) (fun _ _=>False) (fun _=>False) obs base r
theorem PS0.bind {P:Program} {M:Imm} {ob:Hs} {w:World} {s:Sem Value} {obs:List AObj} {base:Nat} {f:AVal->AVal} (hf:∀ v u,Rep M ob u v->Rep M ob u (f v)):∀ {r:OR},PS0 P M ob w s obs base r->PS0 P M ob w s obs base (r.bind fun v=>.val (f v))
 | .no,_=>trivial
 | .val v,⟨h1,u,h2,h3⟩=>⟨h1,u,h2,hf _ _ h3⟩
 | .mkf fn fs cs,_=>trivial
 | .need p r,h=>fun hp=>PS0.bind hf (r:=r) (h hp)
 | .alt p v w,_=>trivial
 | .idx n f',h=>fun i hi=>PS0.bind hf (r:=f' i) (h i hi)
 | .elem xs i f',h=>fun x hx=>PS0.bind hf (r:=f' x) (h x hx)
 | .byte l i,_=>trivial
 | .text xs,_=>trivial
 | .find es key f',_=>trivial
 | .born x v,_=>trivial
 | .upd k x v,_=>trivial
 | .nilq xs neg,_=>trivial
 | .call f' args,_=>trivial
 | .pan v,_=>trivial
structure VS1 (P:Program) (ρv:Operand->Value) (op:Op) (ty:TypeId) (M:Imm) (ob:Hs) (obs:List AObj) (w:World) (v:AVal) (obs':List AObj) (u:Value) (w':World) (M':Imm) (ob':Hs):Prop where
 run:∀ d pos after g,(execOp ρv ⟨d,op,ty,pos,after,g⟩).run P w= .ok (.value u) w'\/((execOp ρv ⟨d,op,ty,pos,after,g⟩).run P w= .ok .skip w'/\u=undef)
 ext:Ext M ob obs w M' ob' obs' w'
 mem:Mem M' ob' obs' w'
 still:cF ob obs ob' obs'
 rep:Rep M' ob' u v
def VS (P:Program) (ρv:Operand->Value) (op:Op) (ty:TypeId) (M:Imm) (ob:Hs) (obs:List AObj) (w:World) (v:AVal) (obs':List AObj):Prop:=∃ u w' M' ob',VS1 P ρv op ty M ob obs w v obs' u w' M' ob'
def CS (P:Program) (ρv:Operand->Value) (op:Op) (ty:TypeId) (M:Imm) (ob:Hs) (w:World) (f:Fn) (args:List AVal):Prop:=
 ∃ va:List Value,cB M ob va args/\∀ d pos after g,(execOp ρv ⟨d,op,ty,pos,after,g⟩).run P w=(yX f va.toArray).run P w
def PS (P:Program) (ρv:Operand->Value) (op:Op) (ty:TypeId) (M:Imm) (w:World) (v:AVal):Prop:=
 ∃ u,(∀ d pos after g,(execOp ρv ⟨d,op,ty,pos,after,g⟩).run P w= .halt (.panic u) w)/\Rep M [] u v
abbrev bV (P:Program) (ρv:Operand->Value) (op:Op) (ty:TypeId) (M:Imm) (ob:Hs) (obs:List AObj) (w:World) (base:Nat) (r:OR):Prop:=
 Sd (VS P ρv op ty M ob obs w) (CS P ρv op ty M ob w) (PS P ρv op ty M w) obs base r
theorem bV.pv {P:Program} {ρv:Operand->Value} {op:Op} {ty:TypeId} {M:Imm} {ob:Hs} {obs:List AObj} {w:World} {base:Nat} {r:OR} {s:Sem Value} (hm:Mem M ob obs w)
  (hx:∀ d pos after g,execOp ρv ⟨d,op,ty,pos,after,g⟩=(s >>= fun v=>Pure.pure (.value v))) (h:PS0 P M ob w s obs base r):bV P ρv op ty M ob obs w base r:=
 Sd.mono (fun v o ⟨h1,u,h2,h3⟩=>⟨u,w,M,ob,fun d pos after g=>.inl (by rw [hx];simp only [Av,h2,Ak,Az]),h1▸Ext.refl _ _ _ _,h1▸hm,h1▸cF.refl _ _,h3⟩) (fun _ _ h=>h.elim) (fun _ h=>h.elim) h
theorem MS {k:IntKind} {n:Int} (h:W0 k n=true):inR k n:=by
 unfold W0 at h
 split at h
 .rename_i m
  have:=Bw h
  rw [show Int.ofNat m=(m:Int) from rfl]
  constructor
  .cases k<;>simp only [cC]<;>omega
  .cases k<;>simp only [ZE,bF] at * <;>omega
 .rename_i m
  have:m<RM k:=by simpa [Ep] using h
  constructor
  .cases k<;>simp only [RM,cC] at * <;>omega
  .cases k<;>simp only [bF]<;>omega
theorem WW (l:List UInt8):RF l=l.length:=by
 induction l with
 | nil=>rfl
 | cons c r ih=>simp [RF,ih]
theorem hC {k:IntKind} {n:Int} (h:inR k n):k.wrap n=n:=by
 unfold inR cC bF at h
 unfold IntKind.wrap
 cases k<;>simp only [IntKind.bits,IntKind.signed] at * <;>simp at * <;>omega
theorem jJ (k:IntKind) (n:Int):inR k (k.wrap n):=by
 unfold inR cC bF IntKind.wrap
 cases k<;>simp only [IntKind.bits,IntKind.signed]<;>simp<;>(try split)<;>omega
theorem RV {k:IntKind} {x y:Int} (h:inR k x):inR k (x.tmod y):=by
 obtain ⟨h1,h2⟩:=h
 have hk:cC k<=0:=by cases k<;>decide
 have hk2:0<=bF k:=by cases k<;>decide
 by_cases hx:0<=x
 .have a:=Int.tmod_nonneg y hx
  have b:x.tmod y<=x:=by
   have:=Int.natAbs_tmod x y
   have:=Nat.mod_le x.natAbs y.natAbs
   omega
  exact ⟨by omega,by omega⟩
 .have e:x.tmod y= -((-x).tmod y):=by rw [Int.neg_tmod];omega
  have a:=Int.tmod_nonneg y (show 0<= -x by omega)
  have b:(-x).tmod y<= -x:=by
   have:=Int.natAbs_tmod (-x) y
   have:=Nat.mod_le (-x).natAbs y.natAbs
   omega
  exact ⟨by omega,by omega⟩
theorem RW {k:IntKind} {x:Int} (p:Nat) (h:inR k x):inR k (x.fdiv (2 ^ p)):=by
 obtain ⟨h1,h2⟩:=h
 have hk:cC k<=0:=by cases k<;>decide
 have hk2:0<=bF k:=by cases k<;>decide
 have hp:(0:Int)<2 ^ p:=Int.pow_pos (by decide)
 have hp1:(1:Int)<=2 ^ p:=by omega
 rw [Gh _ (by omega)]
 generalize (2:Int) ^ p=q at hp hp1
 constructor
 .refine Int.le_ediv_of_mul_le hp ?_
  have:cC k*q<=cC k*1:=Int.mul_le_mul_of_nonpos_left hk hp1
  omega
 .refine Int.ediv_le_of_le_mul hp ?_
  have:bF k*1<=bF k*q:=Int.mul_le_mul_of_nonneg_left hp1 hk2
  omega
theorem rE {k k':IntKind} (h:RO k k'=true):k=k':=by cases k<;>cases k'<;>first | rfl | cases h
theorem sdc {VS:AVal->List AObj->Prop} {CS:Fn->List AVal->Prop} {PS:AVal->Prop} {obs:List AObj} {base:Nat} {b:Bool} {r:OR} (h:b=true->Sd VS CS PS obs base r):Sd VS CS PS obs base (bif b then r else .no):=by
 cases b with
 | true=>exact h rfl
 | false=>exact trivial
section
variable {P:Program} {E:Env} {M:Imm} {ob:Hs} {obs:List AObj} {w:World} {base:Nat}
theorem lK (v:Value):Rep M ob v (YK v):=by
 unfold YK
 split
 .exact .bool _
 .rename_i k n
  cases h:W0 k n with
  | true=>exact .int _ _ (MS h)
  | false=>exact .undef _
 .rename_i s
  cases h:Ea (RF s.data.toList) 1000000 with
  | true=>
   have:=Bw h
   rw [WW] at this
   obtain ⟨⟨l⟩⟩:=s
   exact .str l (by simp at this;omega)
  | false=>exact .undef _
 .exact .nilslice
 .exact .nilptr
 .exact .nilmap
 .exact .nilfunc
 .exact .nilif
 .exact .undef _
theorem yL {op:BinOp} {t:TypeId} {k:IntKind} {x y n:Int} (hb:(binOp op t (.int k x) (.int k y)).run P w= .ok (.int k (k.wrap n)) w):
  PS0 P M ob w (binOp op t (.int k x) (.int k y)) obs base (yM k n):=
 ⟨fun hp=>⟨rfl,_,by rw [hb,hC hp],.int _ _ hp⟩,rfl,_,hb,.int _ _ (jJ _ _)⟩
theorem aA5 {op:BinOp} {t:TypeId} {k:IntKind} {x y:Int} (hx:inR k x):PS0 P M ob w (binOp op t (.int k x) (.int k y)) obs base (aCb op k x y):=by
 have vi:∀ {op:BinOp} {n:Int},(binOp op t (.int k x) (.int k y)).run P w= .ok (.int k n) w->inR k n->PS0 P M ob w (binOp op t (.int k x) (.int k y)) obs base (.val (.int k n)):=fun h1 h2=>⟨rfl,_,h1,.int _ _ h2⟩
 have vb:∀ {op:BinOp} {b:Bool},(binOp op t (.int k x) (.int k y)).run P w= .ok (.bool b) w->PS0 P M ob w (binOp op t (.int k x) (.int k y)) obs base (.val (.bool b)):=fun h1=>⟨rfl,_,h1,.bool _⟩
 have eb:∀ op,inR k (iC op k x y):=fun op=>by
  unfold iC
  cases op<;>exact jJ _ _
 cases op with
 | add=>exact yL (by rw [binOp_add];rfl)
 | sub=>exact yL (by rw [binOp_sub];rfl)
 | mul=>exact yL (by rw [binOp_mul];rfl)
 | quo=>
  intro hy
  have e:(binOp .quo t (.int k x) (.int k y)).run P w= .ok (.int k (k.wrap (x.tdiv y))) w:=by rw [binOp_quo];simp only [Op.intDiv,if_neg hy];rfl
  exact ⟨fun hp=>⟨rfl,_,by rw [e,hC hp],.int _ _ hp⟩,rfl,_,e,.int _ _ (jJ _ _)⟩
 | rem=>
  intro hy
  exact vi (by rw [binOp_rem];simp only [Op.intDiv,if_neg hy];rfl) (RV hx)
 | and=>exact vi (by rw [binOp_and];rfl) (eb .and)
 | or=>exact vi (by rw [binOp_or];rfl) (eb .or)
 | xor=>exact vi (by rw [binOp_xor];rfl) (eb .xor)
 | andNot=>exact vi (by rw [binOp_andNot];rfl) (eb .andNot)
 | shl=>exact trivial
 | shr=>exact trivial
 | eql=>exact vb (by rw [binOp_eql];rfl)
 | neq=>exact vb (by rw [binOp_neq];rfl)
 | lss=>exact vb (by rw [binOp_lss];rfl)
 | leq=>exact vb (by rw [binOp_leq];rfl)
 | gtr=>exact vb (by rw [binOp_gtr];rfl)
 | geq=>exact vb (by rw [binOp_geq];rfl)
theorem cX (l:List UInt8):(⟨l.toArray⟩:ByteArray).toList=l:=by rw [ByteArray.toList_eq]
theorem HP (l:List UInt8) (i j:Nat):(⟨l.toArray⟩:ByteArray).extract i j=⟨((l.take j).drop i).toArray⟩:=by
 have h:=Lib.extract_data ⟨l.toArray⟩ i j
 have:((⟨l.toArray⟩:ByteArray).extract i j).data=((l.take j).drop i).toArray:=by
  rw [<-Array.toList_inj,h]
  simp [List.drop_take]
 cases hq:(⟨l.toArray⟩:ByteArray).extract i j with
 | mk d=>rw [hq] at this;simp at this;rw [this]
theorem rU {M':Imm} {ob':Hs}:∀ {xs ys:List AVal} {c:Bool},ceq xs ys=some c->∀ {vs:List Value},cB M ob vs xs->cB M' ob' vs xs:=by
 intro xs
 induction xs with
 | nil=>intro ys c _ vs h;exact ⟨h.1,fun i v a _ ha=>by simp at ha⟩
 | cons x xs ih=>
  intro ys c h vs hr
  cases ys with
  | nil=>cases x<;>cases h
  | cons y ys=>
   cases x with
   | int k a=>
    cases y with
    | int k' b=>
     simp only [ceq] at h
     obtain ⟨_,h2⟩:=dK h
     cases hq:ceq xs ys with
     | none=>simp [hq] at h2
     | some c'=>
      match vs,hr with
      | [],hr=>exact absurd hr.1 (by simp)
      | v::vs,hr=>
       have ht:=ih hq (vs:=vs) ⟨by simpa using hr.1,fun i u b hu hb=>hr.2 (i+1) u b (by simpa using hu) (by simpa using hb)⟩
       refine ⟨by simpa using hr.1,fun i u b hu hb=>?_⟩
       cases i with
       | zero=>
        simp at hu hb
        subst hu hb
        have:=(hr.2 0 v _ rfl rfl).int_inv
        rw [this.1]
        exact .int _ _ this.2
       | succ i=>exact ht.2 i u b (by simpa using hu) (by simpa using hb)
    | _=>cases h
   | _=>cases h
theorem FZ:∀ {xs ys:List AVal} {c:Bool},ceq xs ys=some c->∃ c',ceq ys xs=some c':=by
 intro xs
 induction xs with
 | nil=>intro ys c h;cases ys with
  | nil=>exact ⟨true,rfl⟩
  | cons y ys=>cases h
 | cons x xs ih=>
  intro ys c h
  cases ys with
  | nil=>cases x<;>cases h
  | cons y ys=>
   cases x with
   | int k a=>
    cases y with
    | int k' b=>
     simp only [ceq] at h
     obtain ⟨hk,h2⟩:=dK h
     have:=rE hk
     subst this
     cases hq:ceq xs ys with
     | none=>simp [hq] at h2
     | some c'=>
      obtain ⟨d,hd⟩:=ih hq
      exact ⟨(b==a)&&d,by simp only [ceq,hk,cond_true,hd]⟩
    | _=>cases h
   | _=>cases h
theorem sE {P:Program} {w:World} {t e:TypeId} {a:Addr} {j:TypeInfo} (d:Nat) (h:P.underlying t=some (.pointer e)) (hj:P.info? e=some j):(Op.equalIn (d+1) t (.pointer (some a)) (.pointer (some a))).run P w= .ok true w:=by
 by_cases hz:j.size=0<;>simp [Op.equalIn,run_underlying h,sizeOf,typeInfo,hj,hz,run_sameAddr_same]
theorem aAK {P:Program} {t e:TypeId} (h:P.underlying t=some (.pointer e)):P.underlying t=some (.pointer (P.pointee t)):=by
 simp [Program.pointee,h]
abbrev yS (op:BinOp) (t:TypeId) (x y:Operand) (vx vy:Value):Sem Value:=eqGuard op t x y vx vy >>= fun _=>binOp op t vx vy
theorem Y9 {s s':Sem Value} (h:∀ {r},s'.run P w=r->s.run P w=r) {r:OR} (k:PS0 P M ob w s' obs base r):PS0 P M ob w s obs base r:=
 Sd.mono (fun _ _ ⟨h1,u,h2,h3⟩=>⟨h1,u,h h2,h3⟩) (fun _ _ h=>h) (fun _ h=>h) k
theorem QQ {op:BinOp} {t:TypeId} {x y:Operand} {vx vy:Value} {c:Bool} (h1:∀ op,eqGuard op t x y vx vy=Pure.pure ()) (h2:∀ op,op= .eql\/op= .neq->binOp op t vx vy=(Op.equal t vx vy >>= fun r=>Pure.pure (.bool (if op= .eql then r else !r))))
  (h3:(Op.equal t vx vy).run P w= .ok c w):PS0 P M ob w (yS op t x y vx vy) obs base (sM op c):=by
 unfold sM
 split
 .refine ⟨rfl,.bool c,?_,.bool c⟩
  simp only [yS,h1,h2 _ (.inl rfl)]
  simp only [Av,Az,Ak,h3,if_true]
 .refine ⟨rfl,.bool (!c),?_,.bool _⟩
  simp only [yS,h1,h2 _ (.inr rfl)]
  simp only [Av,Az,Ak,h3]
  rfl
 .exact trivial
theorem aAt {op:BinOp} {t:TypeId} {x y:Operand} {vx vy:Value} {c:Bool} {xs:List AVal} (h1:∀ op,eqGuard op t x y vx vy=Pure.pure ()) (h2:∀ op,op= .eql\/op= .neq->binOp op t vx vy=(Op.equal t vx vy >>= fun r=>Pure.pure (.bool (if op= .eql then r else !r))))
  (h3:(Op.equal t vx vy).run P w= .ok c w) (hc:c=true->xs=[]):PS0 P M ob w (yS op t x y vx vy) obs base (aAu op xs):=by
 have:=QQ (M:=M) (ob:=ob) (obs:=obs) (base:=base) (op:=op) h1 h2 h3
 unfold aAu
 unfold sM at this
 split
 .exact ⟨c,hc,this⟩
 .exact ⟨c,hc,this⟩
 .exact trivial
theorem aA8 (hE:EnvOK E) {og:Nat->AObj} {op:BinOp} {t:TypeId} {x y:Operand} {vx vy:Value} {a b:AVal} (hx:Rep M ob vx a) (hy:Rep M ob vy b):PS0 E.P M ob w (yS op t x y vx vy) obs base (aA9 E og (isC x||isC y) op t a b):=by
 unfold aA9
 split
 .rename_i k x' k' y'
  obtain ⟨rfl,rx⟩:=hx.int_inv
  obtain ⟨rfl,ry⟩:=hy.int_inv
  have hg:∀ op,(eqGuard op t x y (.int k x') (.int k' y'))=Pure.pure ():=fun op=>by cases op<;>rfl
  refine Y9 (s':=binOp op t (.int k x') (.int k' y')) (fun h=>by simp only [yS,hg,Av,Az,Ak];exact h) ?_
  split
  .intro c0
   have e:(binOp .shl t (.int k x') (.int k' y')).run E.P w= .ok (.int k (k.wrap (x'*2 ^ min y'.toNat k.bits))) w:=by
    rw [binOp_shl]
    simp only [Op.shift]
    rw [if_neg (by omega)]
    rfl
   refine ⟨fun ⟨c1,c2⟩=>⟨rfl,_,?_,.int _ _ c2⟩,rfl,_,e,.int _ _ (jJ _ _)⟩
   rw [e,Ei c1,hC c2]
  .rintro ⟨c0,c1⟩
   refine ⟨rfl,_,?_,.int _ _ (RW _ rx)⟩
   rw [binOp_shr]
   simp only [Op.shift]
   rw [if_neg (by omega),Ei c1]
   rfl
  .refine sdc fun hk=>?_
   have:=rE hk
   subst this
   exact aA5 rx
 .rename_i l1 l2
  obtain ⟨rfl,rx⟩:=hx.str_inv
  obtain ⟨rfl,ry⟩:=hy.str_inv
  have hg:∀ op,(eqGuard op t x y (.string ⟨l1.toArray⟩) (.string ⟨l2.toArray⟩))=Pure.pure ():=fun op=>by cases op<;>rfl
  refine Y9 (s':=binOp op t (.string ⟨l1.toArray⟩) (.string ⟨l2.toArray⟩)) (fun h=>by simp only [yS,hg,Av,Az,Ak];exact h) ?_
  split
  .intro c0
   refine ⟨rfl,.string ⟨(l1++l2).toArray⟩,?_,.str _ (by simpa using c0)⟩
   rw [binOp_string_add]
   rw [run_string_add_sum w _ _ (by rw [lU,lU];omega),ByteArray.mk_append_mk]
  .exact ⟨rfl,_,by rw [binOp_string_eql,cX,cX];rfl,.bool _⟩
  .exact ⟨rfl,_,by rw [binOp_string_neq,cX,cX];rfl,.bool _⟩
  .exact ⟨rfl,_,by rw [binOp_string_lss,cX,cX];rfl,.bool _⟩
  .exact ⟨rfl,_,by rw [binOp_string_leq,cX,cX];rfl,.bool _⟩
  .exact ⟨rfl,_,by rw [binOp_string_gtr,cX,cX];rfl,.bool _⟩
  .exact ⟨rfl,_,by rw [binOp_string_geq,cX,cX];rfl,.bool _⟩
  .exact trivial
 .rename_i xs ys
  refine sdc fun hg=>?_
  obtain ⟨hf1,hf2⟩:=aS hg
  have hf:0<uQ E.fl t:=by simpa [Ep] using hf1
  have hlen:=aB hf2
  rw [rS] at hlen
  obtain ⟨vs,rfl,hl,hr⟩:=hx.agg_inv
  obtain ⟨us,rfl,hl',hr'⟩:=hy.agg_inv
  split
  .rename_i c hcq
   obtain ⟨c',hcq'⟩:=FZ hcq
   obtain ⟨g1,g2⟩:=(hE.fl t hf).1 w x y _ _ vs us c hcq hlen (rU hcq ⟨hl,hr⟩) (rU hcq' ⟨hl',hr'⟩)
   refine ⟨rfl,.bool c,?_,.bool c⟩
   simp only [yS,Av,g1,Ak,binOp,g2,Az]
  .rename_i c hcq
   obtain ⟨c',hcq'⟩:=FZ hcq
   obtain ⟨g1,g2⟩:=(hE.fl t hf).1 w x y _ _ vs us c hcq hlen (rU hcq ⟨hl,hr⟩) (rU hcq' ⟨hl',hr'⟩)
   refine ⟨rfl,.bool (!c),?_,.bool _⟩
   simp only [yS,Av,g1,Ak,binOp,g2,Az]
  .exact trivial
 .split
  .exact trivial
  .rename_i ti hT
   have hkind:=(hE.tab t ti hT).kind
   have two:∀ {vx vy:Value},(∀ op,eqGuard op t x y vx vy=Pure.pure ())->(∀ op,op= .eql\/op= .neq->binOp op t vx vy=(Op.equal t vx vy >>= fun r=>Pure.pure (.bool (if op= .eql then r else !r))))->
     ∀ {c:Bool},(Op.equal t vx vy).run E.P w= .ok c w->PS0 E.P M ob w (yS op t x y vx vy) obs base (sM op c):=fun h1 h2 _ h3=>QQ h1 h2 h3
   split
   .have hk:=‹ti.kind=TK.bool›
    rw [hk] at hkind
    obtain rfl:=hx.bool_inv
    obtain rfl:=hy.bool_inv
    exact two (fun op=>by cases op<;>rfl) (fun op ho=>by rcases ho with rfl | rfl<;>rfl) (run_equal_bool w t _ _ hkind.1)
   .have hk:=‹ti.kind=TK.slc _ _ _›
    rw [hk] at hkind
    have:=hx.untok.2
    obtain rfl:vx= .slice none 0 0:=this
    cases hy
    exact two (fun op=>by cases op<;>rfl) (fun op ho=>by rcases ho with rfl | rfl<;>rfl) (run_equal_slice_nil w t _ none 0 0 hkind.1.1)
   .have hk:=‹ti.kind=TK.slc _ _ _›
    rw [hk] at hkind
    cases hx
    cases hy
    exact two (fun op=>by cases op<;>rfl) (fun op ho=>by rcases ho with rfl | rfl<;>rfl) (run_equal_slice_nil w t _ none 0 0 hkind.1.1)
   .have hk:=‹ti.kind=TK.slc _ _ _›
    rw [hk] at hkind
    obtain ⟨a,c,rfl,h0,_⟩:=hx.slice_inv
    cases hy
    exact aAt (fun op=>by cases op<;>rfl) (fun op ho=>by rcases ho with rfl | rfl<;>rfl) (run_equal_slice_nil w t _ a _ c hkind.1.1) (fun e=>(h0 (by cases a<;>first | rfl | cases e)).1)
   .have hk:=‹ti.kind=TK.ptr _›
    rw [hk] at hkind
    cases hx
    cases hy
    exact two (fun op=>by cases op<;>rfl) (fun op ho=>by rcases ho with rfl | rfl<;>rfl) (run_equal_pointer_nil w t _ (aAK hkind.1))
   .have hk:=‹ti.kind=TK.ptr _›
    rw [hk] at hkind
    obtain ⟨b,rfl,_⟩:=hx.ref_inv
    cases hy
    exact two (fun op=>by cases op<;>rfl) (fun op ho=>by rcases ho with rfl | rfl<;>rfl) (run_equal_pointer_nil w t _ (aAK hkind.1))
   .have hk:=‹ti.kind=TK.ptr _›
    rw [hk] at hkind
    obtain ⟨b,o,rfl,_⟩:=hx.ptr_inv
    cases hy
    exact two (fun op=>by cases op<;>rfl) (fun op ho=>by rcases ho with rfl | rfl<;>rfl) (run_equal_pointer_nil w t _ (aAK hkind.1))
   .have hk:=‹ti.kind=TK.ptr _›
    rw [hk] at hkind
    split
    .rename_i tj hT'
     refine sdc fun hg=>?_
     obtain ⟨h1,h2⟩:=aS hg
     have h1:=aB h1
     have h2:=aB h2
     subst h1 h2
     obtain ⟨b,rfl,hb⟩:=hx.ref_inv
     obtain ⟨b',rfl,hb'⟩:=hy.ref_inv
     rw [hb] at hb'
     cases hb'
     obtain ⟨j,hj,_⟩:=Bx.1 (hE.tab _ tj hT').size?
     refine two (fun op=>by cases op<;>rfl) (fun op ho=>by rcases ho with rfl | rfl<;>rfl) (c:=true) ?_
     exact sE 9999 hkind.1 hj
    .exact trivial
   .have hk:=‹ti.kind=TK.iface›
    rw [hk] at hkind
    obtain ⟨ms,hms⟩:=hkind.1
    cases hx
    cases hy
    refine sdc fun hl=>two (fun op=>?_) (fun op ho=>by rcases ho with rfl | rfl<;>rfl) (run_equal_nil_nil w t (by simp only [Program.methodsAt,hms]))
    cases op<;>first | rfl | (cases x<;>first | rfl | (cases y<;>first | rfl | cases hl))
   .have hk:=‹ti.kind=TK.iface›
    rw [hk] at hkind
    obtain ⟨ms,hms⟩:=hkind.1
    cases hx
    cases hy
    exact two (fun op=>by cases op<;>rfl) (fun op ho=>by rcases ho with rfl | rfl<;>rfl) (run_equal_held_nil w t _ _ (by simp only [Program.methodsAt,hms]))
   .exact trivial
end
end Go.AW
