/-
  The engine, second make, first part: abstract values, what each operation comes to, memory. Over any program.
-/
import Derived.WalkKit
import Derived.WalkLawsBesides
import Derived.RangeFuncLeaves
import Derived.OrdersIn
import Derived.TacticsIn
import Derived.Deep.AppendSrc
import Derived.Lib.Strings
import Derived.LaidEql
set_option linter.all false
open Array renaming getElem?_eq_some_iff->Dw,length_toList->Hx,toList_append->Lp,toList_map->Jf
open Bool renaming and_eq_true->Af,not_eq_true'->Co,or_eq_true->Fy
open Go.Builtin renaming append_->Cr,firstCells->Cj,zeroCells->Ce
open Go.Instr renaming checkKey->Gw
open Go.Region renaming binds->Iw
open Go.Result renaming andThen_ok->Au
open Go.Sem renaming run_bind->Bc,run_pure->Bv
open Go.Value renaming int->Je,ownBlock->Gi,slice->Gc
open Go.World renaming block_lt_of_cell?->Cy,cell?_of_block->Dc,ownsRow_nil->Hh
open Int renaming fdiv_eq_ediv_of_nonneg->Kd
open List renaming append_assoc->Ay,append_nil->Bm,cons_append->Jd,drop_eq_nil_of_le->Ae,eq_nil_of_length_eq_zero->Al,ext_getElem?->Ek,getElem?_append_left->Ag,getElem?_append_right->Ar,getElem?_cons_succ->Fe,getElem?_drop->Ci,getElem?_eq_getElem->Ab,getElem?_eq_none->Bj,getElem?_eq_some_iff->Ac,getElem?_map->Bd,getElem?_of_mem->Ch,getElem?_range->Dr,getElem?_replicate->Ec,getElem?_set_ne->Bh,getElem?_set_self->Ba,getElem?_take->Fs,getElem?_take_of_lt->Br,getElem_mem->Bg,getLast?_append->Lm,getLast?_eq_getElem?->Kj,getLast?_eq_some_getLast->Jq,length->Lk,length_append->Bo,length_drop->Gs,length_take->Fc,map_cons->Bk,mem_append->Ao,mem_cons->Aj,mem_map->Bb,mem_of_getElem?->Az,mem_of_mem_drop->Ed,mem_of_mem_take->Cx,mem_range->Fu,nil_append->Jv,nodup_cons->Bp,nodup_nil->Gh,prefix_refl->Dd,range->Df,replicate->Ah,size_toArray->Fj,take_left->Kf,take_zero->Hn
open Nat renaming add_assoc->Ks,add_mul->Bz,add_sub_cancel->Ih,add_sub_cancel_left->Gv,add_zero->Dy,beq->Av,beq_refl->Lv,ble->Ff,blt->Eg,div_add_mod->Ib,div_eq_of_lt->Ja,div_lt_iff_lt_mul->Ea,div_one->Jp,eq_zero_or_pos->Gf,le_div_iff_mul_le->Hd,le_of_ble_eq_true->Cl,le_refl->Bi,le_trans->Cm,lor->Lu,lt_of_lt_of_le->Dz,lt_or_ge->Lt,min_eq_left->Ic,mod_lt->Gp,mul_add_div->Js,mul_comm->Fg,mul_le_mul_right->Cg,zero_add->Cb,zero_le->Cc
open Option renaming getD_some->Gt,isSome_iff_exists->Db,map_eq_some_iff->Cq
open Option.some renaming injEq->Em
namespace Go.AW
open Go.RowKit
theorem _root_.o_ {P:Prop} (h:P:=by omega):P:=h
theorem _root_.d_ {P:Prop} (h:P:=by decide):P:=h
theorem _root_.s_ {P:Prop} (h:P:=by simp):P:=h
theorem _root_.q_ {P:Prop} (h:P:=by simp;omega):P:=h
def bW:IntKind->Int
 | .i8=> -128 | .i16=> -32768 | .i32=> -2147483648 | .i64=> -9223372036854775808 | _=>0
def bI:IntKind->Int
 | .i8=>127 | .i16=>32767 | .i32=>2147483647 | .i64=>9223372036854775807
 | .u8=>255 | .u16=>65535 | .u32=>4294967295 | .u64=>18446744073709551615
def inR (k:IntKind) (n:Int):Prop:=bW k<=n/\n<=bI k
inductive Tk where
 | no | nil | full | own (k g:Nat)
inductive AVal where
 | undef
 | bool (b:Bool)
 | int (k:IntKind) (n:Int)
 | str (l:List UInt8)
 | slice (sz:Nat) (xs:List AVal) (t:Tk)
 | agg (cs:List AVal)
 | tup (vs:List AVal)
 | ptr (cs:List AVal)
 | ref (k off:Nat)
 | eref (k g i sz off:Nat)
 | csl (k off len sz:Nat)
 | row (k g:Nat)
 | sub (k g lo len sz:Nat)
 | rowc (k g c:Nat)
 | pre (k g n c sz:Nat)
 | mref (k:Nat)
 | nilptr | nilslice | nilmap | nilfunc | nilif
 | hsl (a:Option Addr) (n c:Nat)
 | func (fn:Fn) (first caps:List AVal)
 | iface (t:TypeId) (v:AVal)
def AVal.cells:AVal->List AVal
 | .agg cs=>cs
 | v=>[v]
abbrev Imm:=Nat->Nat->AVal->Prop
def NoM (M:Imm) (b o:Nat):Prop:=∀ x,¬ M b o x
abbrev Hs:=List (List Value)
def at' (ob:Hs) (k g:Nat):Option Value:=(ob[k]?).bind fun hs=>hs[g]?
def dR (ob ob':Hs):Prop:=∀ (k:Nat) hs,ob[k]? =some hs->∃ hs',ob'[k]? =some hs'/\hs<+:hs'
theorem dR.refl (ob:Hs):dR ob ob:=fun _ hs h=>⟨hs,h,Dd _⟩
theorem dR.trans {a b c:Hs} (h:dR a b) (k:dR b c):dR a c:=fun i hs g=>by
 obtain ⟨h1,e,l⟩:=h i hs g
 obtain ⟨j,f,d⟩:=k i h1 e
 exact ⟨j,f,l.trans d⟩
theorem dR.at {ob ob':Hs} (h:dR ob ob') {k g:Nat} {v:Value} (a:at' ob k g=some v):at' ob' k g=some v:=by
 unfold at' at *
 cases b:ob[k]? with
 | none=>grind
 | some hs=>
  rw [b] at a
  obtain ⟨hs',e,p⟩:=h k hs b
  rw [e]
  simp only [Option.bind_some] at a⊢
  obtain ⟨t,rfl⟩:=p
  rw [Ag (Ac.1 a).1]
  exact a
def sG (ob:Hs) (v:Value):Tk->Prop
 | .no=>True
 | .nil=>v= .slice none 0 0
 | .full=>∃ a n,v= .slice a n n
 | .own k g=>at' ob k g=some v
theorem sG.mono {ob ob':Hs} (a:dR ob ob') {v:Value} {t:Tk} (h:sG ob v t):sG ob' v t:=by
 cases t with
 | own k g=>exact a.at h
 | _=>exact h
inductive Rep (M:Imm) (ob:Hs):Value->AVal->Prop
 | undef (v):Rep M ob v .undef
 | bool (b):Rep M ob (.bool b) (.bool b)
 | int (k n) (h:inR k n):Rep M ob (.int k n) (.int k n)
 | str (l:List UInt8) (h:(l.length:Int)<=9223372036854775807):Rep M ob (.string ⟨l.toArray⟩) (.str l)
 | agg (vs:List Value) (as:List AVal) (hl:vs.length=as.length) (h:∀ (i:Nat) v a,vs[i]? =some v->as[i]? =some a->Rep M ob v a):Rep M ob (.agg vs.toArray) (.agg as)
 | tup (vs:List Value) (as:List AVal) (hl:vs.length=as.length) (h:∀ (i:Nat) v a,vs[i]? =some v->as[i]? =some a->Rep M ob v a):Rep M ob (.tuple vs.toArray) (.tup as)
 | ptr (b o:Nat) (cs:List AVal) (h:∀ (j:Nat) c,cs[j]? =some c->M b (o+j) c):Rep M ob (.pointer (some ⟨b,o,none⟩)) (.ptr cs)
 | ref (k off b:Nat) (h:at' ob k 0=some (.pointer (some ⟨b,0,none⟩))):Rep M ob (.pointer (some ⟨b,off,none⟩)) (.ref k off)
 | eref (k g i sz off b n c:Nat) (h:at' ob k g=some (.slice (some ⟨b,0,none⟩) n c)):Rep M ob (.pointer (some ⟨b,i*sz+off,none⟩)) (.eref k g i sz off)
 | csl (k off len sz b:Nat) (h:at' ob k 0=some (.pointer (some ⟨b,0,none⟩))) (hm:(len:Int)<=9223372036854775807):Rep M ob (.slice (some ⟨b,off,none⟩) len len) (.csl k off len sz)
 | row (k g:Nat) (a:Option Addr) (n c:Nat) (h:at' ob k g=some (.slice a n c)):Rep M ob (.slice a n c) (.row k g)
 | sub (k g lo len sz b n c:Nat) (h:at' ob k g=some (.slice (some ⟨b,0,none⟩) n c)) (hl:lo<c) (hn:lo+len<=n) (hc:n<=c) (hm:(n:Int)<=9223372036854775807):Rep M ob (.slice (some ⟨b,lo*sz,none⟩) len (c-lo)) (.sub k g lo len sz)
 | sub0 (k g lo sz:Nat) (a a':Option Addr) (n c:Nat) (h:at' ob k g=some (.slice a n c)) (hl:lo=n) (hc:n=c):Rep M ob (.slice a' 0 0) (.sub k g lo 0 sz)
 | rowc (k g c:Nat) (a:Option Addr) (n:Nat) (h:at' ob k g=some (.slice a n c)) (hm:(c:Int)<=9223372036854775807):Rep M ob (.slice a n c) (.rowc k g c)
 | pre (k g n c sz b len:Nat) (h:at' ob k g=some (.slice (some ⟨b,0,none⟩) len c)) (hc:0<c) (hn:n<=len) (hl:len<=c) (hm:(c:Int)<=9223372036854775807):Rep M ob (.slice (some ⟨b,0,none⟩) n c) (.pre k g n c sz)
 | mref (k b:Nat) (h:at' ob k 0=some (.map (some b))):Rep M ob (.map (some b)) (.mref k)
 | nilptr:Rep M ob (.pointer none) .nilptr
 | nilslice:Rep M ob (.slice none 0 0) .nilslice
 | nilmap:Rep M ob (.map none) .nilmap
 | nilfunc:Rep M ob .nilFunc .nilfunc
 | nilif:Rep M ob .nilIface .nilif
 | hsl (a:Option Addr) (n c:Nat):Rep M ob (.slice a n c) (.hsl a n c)
 | slnil (sz:Nat) (t:Tk) (ht:sG ob (.slice none 0 0) t):Rep M ob (.slice none 0 0) (.slice sz [] t)
 | slemp (sz:Nat) (t:Tk) (a:Addr) (cap:Nat) (ht:sG ob (.slice (some a) 0 cap) t):Rep M ob (.slice (some a) 0 cap) (.slice sz [] t)
 | sl (sz b o n cap:Nat) (xs:List AVal) (t:Tk) (hn:xs.length=n) (hc:n<=cap) (hm:(n:Int)<=9223372036854775807) (hz:∀ x∈xs,x.cells.length=sz)
   (h:∀ (i j:Nat) x c,xs[i]? =some x->x.cells[j]? =some c->M b (o+i*sz+j) c) (ht:sG ob (.slice (some ⟨b,o,none⟩) n cap) t):Rep M ob (.slice (some ⟨b,o,none⟩) n cap) (.slice sz xs t)
 | func (fn:Fn) (fs cs:List Value) (fa ca:List AVal) (hf:fs.length=fa.length) (hc:cs.length=ca.length)
   (h1:∀ (i:Nat) v a,fs[i]? =some v->fa[i]? =some a->Rep M ob v a) (h2:∀ (i:Nat) v a,cs[i]? =some v->ca[i]? =some a->Rep M ob v a):
   Rep M ob (.func fn fs.toArray cs.toArray) (.func fn fa ca)
 | iface (t:TypeId) (v:Value) (a:AVal) (h:Rep M ob v a):Rep M ob (.iface t v) (.iface t a)
theorem Rep.mono {M M':Imm} {ob ob':Hs} (s:∀ b o x,M b o x->M' b o x) (d:dR ob ob') {v:Value} {a:AVal} (h:Rep M ob v a):Rep M' ob' v a:=by
 induction h with
 | undef v=>exact .undef v
 | bool b=>exact .bool b
 | int k n h=>exact .int k n h
 | str l h=>exact .str l h
 | agg vs as hl _ p=>exact .agg vs as hl p
 | tup vs as hl _ p=>exact .tup vs as hl p
 | ptr b o cs h=>exact .ptr b o cs fun j c e=>s _ _ _ (h j c e)
 | ref k off b h=>exact .ref k off b (d.at h)
 | eref k g i sz off b n c h=>exact .eref k g i sz off b n c (d.at h)
 | csl k off len sz b h hm=>exact .csl k off len sz b (d.at h) hm
 | row k g a n c h=>exact .row k g a n c (d.at h)
 | sub k g lo len sz b n c h hl f e hm=>exact .sub k g lo len sz b n c (d.at h) hl f e hm
 | sub0 k g lo sz a y n c h hl e=>exact .sub0 k g lo sz a y n c (d.at h) hl e
 | rowc k g c a n h hm=>exact .rowc k g c a n (d.at h) hm
 | pre k g n c sz b len h e f hl hm=>exact .pre k g n c sz b len (d.at h) e f hl hm
 | mref k b h=>exact .mref k b (d.at h)
 | nilptr=>exact .nilptr
 | nilslice=>exact .nilslice
 | nilmap=>exact .nilmap
 | nilfunc=>exact .nilfunc
 | nilif=>exact .nilif
 | hsl a n c=>exact .hsl a n c
 | slnil sz t m=>exact .slnil sz t (m.mono d)
 | slemp sz t a cap m=>exact .slemp sz t a cap (m.mono d)
 | sl sz b o n cap xs t f e hm hz h m=>exact .sl sz b o n cap xs t f e hm hz (fun i j x c u C=>s _ _ _ (h i j x c u C)) (m.mono d)
 | func fn z cs w A B e _ _ q r=>exact .func fn z cs w A B e q r
 | iface t v a _ p=>exact .iface t v a p
theorem L4 (ob:Hs):dR [] ob:=fun k hs h=>by simp at h
theorem Rep.pure {M:Imm} {ob:Hs} {v:Value} {a:AVal} (h:Rep M [] v a):Rep M ob v a:=h.mono (fun _ _ _ h=>h) (L4 ob)
theorem Rep.monoM {M M':Imm} {ob:Hs} {v:Value} {a:AVal} (h:Rep M ob v a) (c:∀ b o x,M b o x->M' b o x):Rep M' ob v a:=h.mono c (dR.refl _)
structure BInv where
 inv:Imm->List Nat->World->Prop
 mono:∀ {M M':Imm} {bs:List Nat} {w w':World},(∀ b o x,M b o x->M' b o x)->(∀ b,b∈bs->∀ o,NoM M b o->NoM M' b o)->(∀ b c,b∈bs->w.heap[b]? =some c->w'.heap[b]? =some c)->inv M bs w->inv M' bs w'
def CC:Obj->Bool
 | .deferred _=>true
 | _=>false
def gF (bs:List Nat):Value:=.tuple (bs.map fun b=>Value.map (some b)).toArray
inductive AObj where
 | dead
 | cells (T:TypeId) (cs:List AVal)
 | fcells (cs:List AVal)
 | row (g sz:Nat) (e:TypeId) (xs:List AVal)
 | frow (g sz:Nat) (xs:List AVal)
 | tail (g sz:Nat) (e:TypeId)
 | mp (ag:Bool) (es:List (List Int×AVal))
 | bun (g:Nat) (I:BInv)
def aGw:Value->Option Nat
 | .map (some b)=>some b
 | _=>none
def JG:Value->List Nat
 | .pointer (some a)=>[a.block]
 | .slice (some a) _ _=>[a.block]
 | .map (some b)=>[b]
 | .tuple vs=>vs.toList.filterMap aGw
 | _=>[]
def blk (hs:List Value):List Nat:=match hs.getLast? with | some v=>JG v | none=>[]
theorem JF {hs:List Value} {bs:List Nat} (h:hs.getLast? =some (gF bs)):blk hs=bs:=by
 unfold blk
 rw [h]
 show (bs.map fun b=>Value.map (some b)).filterMap aGw=bs
 clear h
 induction bs with
 | nil=>rfl
 | cons b r a=>simp only [Bk,List.filterMap_cons,aGw,a]
theorem dV {b c:Nat}:b∈([c]:List Nat)↔c=b:=by grind
def AObj.owns:AObj->Bool
 | .dead | .fcells _ | .frow _ _ _=>false
 | _=>true
def cellAt (sz:Nat) (xs:List AVal) (q:Nat):Option AVal:=(xs[q / sz]?).bind fun x=>x.cells[q % sz]?
def QT (w:World) (v:Value):Prop:=∀ b,v.ownBlock=some b->∀ a T c,w.heap[b]? =some (.cells a T c)->∀ u∈a.toList,u.oneCell'=true
def dG (M:Imm) (w:World) (v:Value) (sz:Nat) (e:TypeId) (xs:List AVal):Prop:=
 ∃ cv,w.ownsRow 0 e sz v xs.length cv/\(∀ u∈cv,u.oneCell'=true)/\(∀ x∈xs,x.cells.length=sz)/\
  (∀ (q:Nat) c,cellAt sz xs q=some c->∃ u,cv[q]? =some u/\Rep M [] u c)/\(∀ b,v.ownBlock=some b->∀ o,NoM M b o)/\QT w v
def eX (a:Bool) (l:List Int):Value:=if a then .agg (l.map (Je .i64)).toArray else .int .i64 (l.headD 0)
def W6 (M:Imm) (w:World) (b:Nat) (d:Bool) (es:List (List Int×AVal)):Prop:=
 ∃ (c:List MapEntry) (a:Nat),w.heap[b]? =some (.map c.toArray a)/\c.length=es.length/\(∀ (i:Nat) x y,c[i]? =some x->es[i]? =some y->x.key=eX d y.1/\(d=false->y.1.length=1)/\Rep M [] x.val y.2)/\
  (∀ (i:Nat) x,c[i]? =some x->x.born<a)/\∀ (i j:Nat) x y,c[i]? =some x->c[j]? =some y->x.born=y.born->i=j
def gR (M:Imm) (ob:Hs) (w:World) (hs:List Value):AObj->Prop
 | .dead=>True
 | .cells T cs=>∃ b,hs=[.pointer (some ⟨b,0,none⟩)]/\(∀ o,NoM M b o)/\∃ (cv:List Value),w.heap[b]? =some (.cells cv.toArray T (0,0))/\cv.length=cs.length/\(∀ v∈cv,v.oneCell'=true)/\
   ∀ (i:Nat) v a,cv[i]? =some v->cs[i]? =some a->Rep M ob v a
 | .fcells cs=>∃ b,hs=[.pointer (some ⟨b,0,none⟩)]/\∀ (j:Nat) c,cs[j]? =some c->M b j c
 | .row g sz e xs=>hs.length=g+1/\∃ v,hs[g]? =some v/\dG M w v sz e xs
 | .frow g sz xs=>∃ v,hs[g]? =some v/\Rep M [] v (.slice sz xs .no)
 | .tail g sz e=>hs.length=g+1/\∃ v,hs[g]? =some v/\∃ n cv,w.ownsRow 0 e sz v n cv/\∀ b,v.ownBlock=some b->∀ o,n*sz<=o->NoM M b o
 | .mp d es=>∃ b,hs=[.map (some b)]/\(∀ o,NoM M b o)/\W6 M w b d es
 | .bun g I=>hs.length=g+1/\∃ bs,hs[g]? =some (gF bs)/\(∀ b,b∈bs->∃ o,w.heap[b]? =some o/\CC o=false)/\I.inv M bs w
def aK (ob:Hs) (obs:List AObj) (k b:Nat):Prop:=∃ c hs,obs[k]? =some c/\c.owns=true/\ob[k]? =some hs/\b∈blk hs
structure Mem (M:Imm) (ob:Hs) (obs:List AObj) (w:World):Prop where
 imm:∀ b o x,M b o x->∃ v,w.cell? ⟨b,o,none⟩=some v/\v.oneCell'=true/\Rep M [] v x
 len:ob.length=obs.length
 obj:∀ (k:Nat) c,obs[k]? =some c->∃ hs,ob[k]? =some hs/\gR M ob w hs c
 lt:∀ k b,aK ob obs k b->b<w.heap.size
 inj:∀ k k' b,aK ob obs k b->aK ob obs k' b->k=k'
structure Ext (M:Imm) (ob:Hs) (obs:List AObj) (w:World) (M':Imm) (ob':Hs) (obs':List AObj) (w':World):Prop where
 imm:∀ b o x,M b o x->M' b o x
 new:∀ b o x,M' b o x->M b o x\/w.heap.size<=b\/∃ k,aK ob obs k b
 hs:dR ob ob'
 os:w'.os=w.os
 tape:w'.tape=w.tape
 output:w'.output=w.output
 size:w.heap.size<=w'.heap.size
 keep:∀ b,b<w.heap.size->(∀ k,¬ aK ob obs k b)->w'.heap[b]? =w.heap[b]?
 fresh:∀ k b,aK ob' obs' k b->(∃ k',aK ob obs k' b)\/w.heap.size<=b
theorem Ext.refl (M:Imm) (ob:Hs) (obs:List AObj) (w:World):Ext M ob obs w M ob obs w where
 imm _ _ _ h:=h
 new _ _ _ h:=.inl h
 hs:=dR.refl _
 os:=rfl
 tape:=rfl
 output:=rfl
 size:=Bi _
 keep _ _ _:=rfl
 fresh k _ h:=.inl ⟨k,h⟩
theorem Ext.trans {M M1 M2:Imm} {ob ob1 ob2:Hs} {obs obs1 obs2:List AObj} {w w1 w2:World} (h:Ext M ob obs w M1 ob1 obs1 w1) (k:Ext M1 ob1 obs1 w1 M2 ob2 obs2 w2):
  Ext M ob obs w M2 ob2 obs2 w2 where
 imm b o x hx:=k.imm _ _ _ (h.imm _ _ _ hx)
 new b o x hx:=by
  rcases k.new b o x hx with h1 | h1 | ⟨i,hi⟩
  .exact h.new b o x h1
  .exact .inr (.inl (Cm h.size h1))
  .rcases h.fresh i b hi with h2 | h2
   .grind
   omega
 hs:=h.hs.trans k.hs
 os:=k.os.trans h.os
 tape:=k.tape.trans h.tape
 output:=k.output.trans h.output
 size:=Cm h.size k.size
 keep b hb ho:=by
  rw [<-h.keep b hb ho]
  refine k.keep b (Dz hb h.size) fun i hi=>?_
  rcases h.fresh i b hi with ⟨j,hj⟩ | h2
  .grind
  .omega
 fresh i b hi:=by
  rcases k.fresh i b hi with ⟨j,hj⟩ | h1
  .exact h.fresh j b hj
  .exact .inr (Cm h.size h1)
def cD (ob:Hs) (obs:List AObj) (ob':Hs) (obs':List AObj):Prop:=∀ (k:Nat) hs,obs[k]? =some .dead->ob[k]? =some hs->
 (hs≠[]->obs'[k]? =some .dead/\ob'[k]? =some hs)/\(hs=[]->obs'[k]? =some .dead->ob'[k]? =some [])
theorem cD.refl (ob:Hs) (obs:List AObj):cD ob obs ob obs:=fun _ _ h1 a=>⟨fun _=>⟨h1,a⟩,fun e _=>e▸a⟩
theorem Ext.below {M M':Imm} {ob':Hs} {obs':List AObj} {w w':World} (h:Ext M [] [] w M' ob' obs' w'):Below w.heap.size w w':=
 ⟨h.os,h.tape,h.output,h.size,fun b a=>h.keep b a fun k ⟨c,hs,h1,_⟩=>by simp at h1⟩
theorem eI {w:World} {b:Nat} {x:Obj} (a:w.heap[b]? =some x):b<w.heap.size:=(Dw.1 a).1
theorem dG.mono {M M':Imm} {w w':World} {v:Value} {sz:Nat} {e:TypeId} {xs:List AVal} (h:dG M w v sz e xs) (t:∀ b o x,M b o x->M' b o x)
  (n:∀ b,v.ownBlock=some b->(∀ o,NoM M b o)->∀ o,NoM M' b o) (j:∀ b c,v.ownBlock=some b->w.heap[b]? =some c->w'.heap[b]? =some c):dG M' w' v sz e xs:=by
 obtain ⟨cv,⟨h1,f⟩,h3,A,z,p,y⟩:=h
 refine ⟨cv,⟨h1,?_⟩,h3,A,fun q c i=>?_,fun b e=>n b e (p b e),fun b e d T B i=>?_⟩
 .rcases f with f | ⟨g,cap,d,a,l,e3,r⟩
  .exact .inl f
  .exact .inr ⟨g,cap,d,a,l,j g _ (by rw [a];rfl) e3,r⟩
 .obtain ⟨u,s,m⟩:=z q c i
  exact ⟨u,s,m.monoM t⟩
 .rcases f with ⟨rfl,_⟩ | ⟨g,cap,k,a,_,e3,_⟩
  .cases e
  .rw [a] at e
   cases e
   have:=j g _ (by rw [a];rfl) e3
   rw [i] at this
   cases this
   exact y g (by rw [a];rfl) _ _ _ e3
theorem gR.mono {M M':Imm} {ob ob':Hs} {w w':World} {hs:List Value} {x:AObj} (h:gR M ob w hs x) (s:∀ b o x,M b o x->M' b o x) (z:dR ob ob')
  (t:∀ b,x.owns=true->b∈blk hs->∀ o,NoM M b o->NoM M' b o) (q:∀ b c,x.owns=true->b∈blk hs->w.heap[b]? =some c->w'.heap[b]? =some c):gR M' ob' w' hs x:=by
 have f:∀ {g:Nat} {v:Value},hs.length=g+1->hs[g]? =some v->blk hs=JG v:=fun {g v} hl A=>by
  unfold blk
  rw [Kj,hl,Ih,A]
 have u:∀ {v:Value} {b:Nat},v.ownBlock=some b->b∈JG v:=fun {v b} h=>by
  unfold Gi at h
  split at h
  .cases h;simp [JG]
  .cases h
 have k:∀ {v:Value} {b:Nat},blk hs=JG v->v.ownBlock=some b->b∈blk hs:=fun {v b} h1 d=>by rw [h1];exact u d
 cases x with
 | dead=>trivial
 | cells T cs=>
  obtain ⟨b,rfl,h1,cv,d,h3,m,p⟩:=h
  exact ⟨b,rfl,fun o=>t b rfl (dV.2 rfl) o (h1 o),cv,q b _ rfl (dV.2 rfl) d,h3,m,fun i v a A L=>(p i v a A L).mono s z⟩
 | fcells cs=>
  obtain ⟨b,rfl,h1⟩:=h
  exact ⟨b,rfl,fun j c O=>s _ _ _ (h1 j c O)⟩
 | row g sz e xs=>
  obtain ⟨h1,v,d,h3⟩:=h
  exact ⟨h1,v,d,h3.mono s (fun b e F o=>t b rfl (k (f h1 d) e) o (F o)) (fun b c e=>q b c rfl (k (f h1 d) e))⟩
 | frow g sz xs=>
  obtain ⟨v,h1,d⟩:=h
  exact ⟨v,h1,d.monoM s⟩
 | tail g sz e=>
  obtain ⟨h1,v,d,n,cv,⟨h3,m⟩,p⟩:=h
  refine ⟨h1,v,d,n,cv,⟨h3,?_⟩,fun b e o z=>t b rfl (k (f h1 d) e) o (p b e o z)⟩
  rcases m with m | ⟨H,cap,C,G,J,e3,r⟩
  .exact .inl m
  .exact .inr ⟨H,cap,C,G,J,q H _ rfl (k (f h1 d) (by rw [G];rfl)) e3,r⟩
 | mp Q es=>
  obtain ⟨b,rfl,h1,N,P,d,h3,m,p⟩:=h
  exact ⟨b,rfl,fun o=>t b rfl (dV.2 rfl) o (h1 o),N,P,q b _ rfl (dV.2 rfl) d,h3,fun i x y D B=>⟨(m i x y D B).1,(m i x y D B).2.1,(m i x y D B).2.2.monoM s⟩,p⟩
 | bun g I=>
  obtain ⟨h1,bs,d,h3,m⟩:=h
  have e:blk hs=bs:=by rw [<-JF (hs:=[gF bs]) rfl];exact f h1 d
  refine ⟨h1,bs,d,fun b l=>?_,I.mono s (fun b l=>t b rfl (by rw [e];exact l)) (fun b c l=>q b c rfl (by rw [e];exact l)) m⟩
  obtain ⟨o,p,K⟩:=h3 b l
  exact ⟨o,q b _ rfl (by rw [e];exact l) p,K⟩
theorem Mem.same {M:Imm} {ob:Hs} {obs:List AObj} {w w':World} (h:Mem M ob obs w) (hs:w.heap.size<=w'.heap.size)
  (j:∀ b,b<w.heap.size->w'.heap[b]? =w.heap[b]?):Mem M ob obs w':=by
 refine ⟨fun b o x m=>?_,h.len,fun k c d=>?_,fun k b g=>Dz (h.lt k b g) hs,h.inj⟩
 .obtain ⟨v,i,l⟩:=h.imm b o x m
  exact ⟨v,(Dc (w:=w) (a:=⟨b,o,none⟩) (j b (Cy w _ i))).trans i,l⟩
 .obtain ⟨hs',f,e⟩:=h.obj k c d
  exact ⟨hs',f,e.mono (fun _ _ _ h=>h) (dR.refl _) (fun _ _ _ _ h=>h) (fun b c _ _ d=>(j b (eI d)).trans d)⟩
theorem Mem.noImm {M:Imm} {ob:Hs} {obs:List AObj} {w:World} (h:Mem M ob obs w) {b:Nat} (d:w.heap.size<=b) (o:Nat):NoM M b o:=by
 intro x c
 obtain ⟨v,a,_⟩:=h.imm b o x c
 have:=Cy w _ a
 grind
inductive TK where
 | int (k:IntKind) | bool | str | strct (fs:List (Nat×Nat×Bool)) | arr (n esz:Nat) (eagg:Bool) | slc (e esz ebytes:Nat) | ptr (e:Nat) | iface | mp (k e:Nat) | other
structure TI where
 kind:TK
 size:Nat
 agg:Bool
 zero:AVal
abbrev Tab:=List (Nat×TI)
def cU:Tab->Nat->Option TI
 | [],_=>none
 | (i,x)::r,n=>bif Av i n then some x else cU r n
abbrev aCa:=List (Nat×String×Nat)
def aAr:aCa->Nat->String->Option Nat
 | [],_,_=>none
 | (i,s,f)::r,n,m=>bif (Av i n&&s==m) then some f else aAr r n m
structure Env where
 P:Program
 T:Tab
 mt:aCa
 fl:List (Nat×Nat)
 own:List Nat
 rws:List Nat
 bl:List Nat
 df:List (Nat×List AVal)
 rd:Option Nat:=none
def sB (n:Nat):List Nat->Bool
 | []=>false
 | x::r=>Av x n||sB n r
def aR:List (Nat×AVal)->Nat->AVal
 | [],_=>.undef
 | (i,v)::r,n=>bif Av i n then v else aR r n
def gU:List (Nat×AVal)->Nat->AVal->List (Nat×AVal)
 | [],n,x=>[(n,x)]
 | (i,v)::r,n,x=>bif Av i n then (n,x)::r else (i,v)::gU r n x
def aC:List AObj->Nat->AObj
 | [],_=>.dead
 | x::_,0=>x
 | _::r,n+1=>aC r n
def bH:List AObj->Nat->AObj->List AObj
 | [],0,y=>[y]
 | [],n+1,y=>.dead::bH [] n y
 | _::r,0,y=>y::r
 | x::r,n+1,y=>x::bH r n y
def aM:List AObj->Nat
 | []=>0
 | _::r=>aM r+1
def jH:Nat->List AVal->List AVal
 | 0,l=>l
 | _+1,[]=>[]
 | n+1,_::l=>jH n l
def lB:Nat->List AVal->Option (List AVal)
 | 0,_=>some []
 | _+1,[]=>none
 | n+1,c::l=>match lB n l with | some r=>some (c::r) | none=>none
def QE:List AVal->List AVal->Option (List AVal)
 | [],l=>some l
 | _::_,[]=>none
 | c::r,_::l=>match QE r l with | some x=>some (c::x) | none=>none
def mG:Nat->List AVal->List AVal->Option (List AVal)
 | 0,new,l=>QE new l
 | _+1,_,[]=>none
 | n+1,new,c::l=>match mG n new l with | some x=>some (c::x) | none=>none
def MQ:List AVal->Nat
 | []=>0
 | _::r=>MQ r+1
def nth {α:Type}:List α->Nat->Option α
 | [],_=>none
 | x::_,0=>some x
 | _::r,n+1=>nth r n
def WY:List AVal->List AVal->List AVal
 | [],l=>l
 | c::r,l=>c::WY r l
def dH (f:AVal->AVal):List AVal->List AVal
 | []=>[]
 | c::r=>f c::dH f r
def aFd:IntKind->Nat
 | .i8=>127 | .i16=>32767 | .i32=>2147483647 | .i64=>9223372036854775807
 | .u8=>255 | .u16=>65535 | .u32=>4294967295 | .u64=>18446744073709551615
def aAE:IntKind->Nat
 | .i8=>128 | .i16=>32768 | .i32=>2147483648 | .i64=>9223372036854775808 | _=>0
def aDU (k:IntKind):Int->Bool
 | .ofNat m=>Ff m (aFd k)
 | .negSucc m=>Eg m (aAE k)
def aAz:List UInt8->Nat
 | []=>0
 | _::r=>aAz r+1
def aEB:Value->AVal
 | .bool b=>.bool b
 | .int k n=>bif aDU k n then .int k n else .undef
 | .string s=>bif Ff (aAz s.data.toList) 1000000 then .str s.data.toList else .undef
 | .slice none 0 0=>.nilslice
 | .pointer none=>.nilptr
 | .map none=>.nilmap
 | .nilFunc=>.nilfunc
 | .nilIface=>.nilif
 | _=>.undef
def ev (fr:List (Nat×AVal)):Operand->AVal
 | .tmp t=>aR fr t
 | .const v=>aEB v
 | .func f=>.func (.func f) [] []
 | .global _=>.undef
def one:AVal->Bool
 | .undef | .agg _ | .tup _=>false
 | _=>true
def oE:List AVal->Bool
 | []=>true
 | c::r=>one c&&oE r
def BV:AVal->Bool
 | .undef=>false
 | _=>true
def pureV (og:Nat->AObj):Nat->AVal->AVal
 | 0,_=>.undef
 | n+1,v=>match v with
  | .slice sz xs _=>.slice sz xs .no
  | .agg cs=>.agg (dH (pureV og n) cs)
  | .tup cs=>.tup (dH (pureV og n) cs)
  | .func fn a cs=>.func fn (dH (pureV og n) a) (dH (pureV og n) cs)
  | .iface t v=>.iface t (pureV og n v)
  | .ref k off=>(match og k with | .fcells cs=>.ptr (jH off cs) | _=>.undef)
  | .csl k off len sz=>(match og k with | .fcells cs=>bif Av sz 1 then (match lB len (jH off cs) with | some l=>bif oE l then .slice 1 l .full else .undef | none=>.undef) else .undef | _=>.undef)
  | .row k g=>(match og k with | .frow g' sz xs=>bif Av g g' then .slice sz xs .no else .undef | _=>.undef)
  | .sub k g lo len sz=>(match og k with | .frow g' sz' xs=>bif Av g g'&&Av sz sz' then .slice sz ((xs.drop lo).take len) .no else .undef | _=>.undef)
  | .eref _ _ _ _ _=>.undef
  | .rowc _ _ _=>.undef
  | .pre _ _ _ _ _=>.undef
  | .mref _=>.undef
  | v=>v
def foldO (f:List AObj->AVal->List AObj):List AObj->List AVal->List AObj
 | obs,[]=>obs
 | obs,c::r=>foldO f (f obs c) r
def frz1 (obs:List AObj) (k:Nat):List AObj:=match aC obs k with
 | .cells _ cs=>bH obs k (.fcells (dH (pureV (aC obs) 4) cs))
 | _=>obs
def frzR (obs:List AObj) (k g:Nat):List AObj:=match aC obs k with
 | .row a sz _ xs=>bif Av g a then bH obs k (.frow g sz xs) else obs
 | _=>obs
def frzV:Nat->List AObj->AVal->List AObj
 | 0,obs,_=>obs
 | n+1,obs,v=>match v with
  | .agg cs=>foldO (frzV n) obs cs
  | .tup cs=>foldO (frzV n) obs cs
  | .func _ a cs=>foldO (frzV n) (foldO (frzV n) obs a) cs
  | .iface _ v=>frzV n obs v
  | .ref k _=>(match aC obs k with | .cells _ cs=>frz1 (foldO (frzV n) obs cs) k | _=>obs)
  | .csl k _ _ _=>(match aC obs k with | .cells _ cs=>frz1 (foldO (frzV n) obs cs) k | _=>obs)
  | .row k g=>frzR obs k g
  | .sub k g _ _ _=>frzR obs k g
  | _=>obs
def frzL (obs:List AObj) (l:List AVal):List AObj:=foldO (frzV 6) obs l
def frzs:List Nat->List AObj->List AObj
 | [],obs=>obs
 | k::r,obs=>frzs r (match aC obs k with
  | .row g _ _ _=>frzR obs k g
  | .cells _ _=>frzV 6 obs (.ref k 0)
  | _=>obs)
inductive OR where
 | no
 | val (v:AVal)
 | mkf (fn:Fn) (fs cs:List AVal)
 | need (p:Prop) (r:OR)
 | alt (p:Prop) (v w:AVal)
 | idx (n:Int) (k:Nat->OR)
 | elem (xs:List AVal) (i:Nat) (k:AVal->OR)
 | byte (l:List UInt8) (i:Nat)
 | text (xs:List AVal)
 | find (es:List (List Int×AVal)) (key:List Int) (k:Option AVal->OR)
 | born (x:AObj) (v:AVal)
 | upd (k:Nat) (x:AObj) (v:AVal)
 | nilq (xs:List AVal) (neg:Bool)
 | call (f:Fn) (args:List AVal)
 | pan (v:AVal)
def OR.bind:OR->(AVal->OR)->OR
 | .val v,k=>k v
 | .need p r,k=>.need p (r.bind k)
 | .elem xs i f,k=>.elem xs i fun x=>(f x).bind k
 | .idx n f,k=>.idx n fun i=>(f i).bind k
 | _,_=>.no
def iX:BinOp->IntKind->Int->Int->Int
 | op,k,x,y=>
  let a:=BitVec.ofInt k.bits x
  let b:=BitVec.ofInt k.bits y
  match op with
  | .and=>k.wrap (a &&& b).toNat
  | .or=>k.wrap (a ||| b).toNat
  | .xor=>k.wrap (a ^^^ b).toNat
  | _=>k.wrap (a &&& ~~~b).toNat
def DE (k:IntKind) (n:Int):OR:=.alt (inR k n) (.int k n) (.int k (k.wrap n))
def aAH:IntKind->IntKind->Bool
 | .i8,.i8 | .i16,.i16 | .i32,.i32 | .i64,.i64 | .u8,.u8 | .u16,.u16 | .u32,.u32 | .u64,.u64=>true
 | _,_=>false
def aIt (op:BinOp) (k:IntKind) (x y:Int):OR:=
 match op with
 | .add=>DE k (x+y)
 | .sub=>DE k (x-y)
 | .mul=>DE k (x*y)
 | .quo=>.need (y≠0) (.alt (inR k (x.tdiv y)) (.int k (x.tdiv y)) (.int k (k.wrap (x.tdiv y))))
 | .rem=>.need (y≠0) (.val (.int k (x.tmod y)))
 | .and=>.val (.int k (iX .and k x y))
 | .or=>.val (.int k (iX .or k x y))
 | .xor=>.val (.int k (iX .xor k x y))
 | .andNot=>.val (.int k (iX .andNot k x y))
 | .eql=>.val (.bool (x==y))
 | .neq=>.val (.bool (x !=y))
 | .lss=>.val (.bool (decide (x<y)))
 | .leq=>.val (.bool (decide (x<=y)))
 | .gtr=>.val (.bool (decide (y<x)))
 | .geq=>.val (.bool (decide (y<=x)))
 | _=>.no
def ceq:List AVal->List AVal->Option Bool
 | [],[]=>some true
 | .int k a::r,.int k' b::s=>bif aAH k k' then (match ceq r s with | some c=>some ((a==b)&&c) | none=>none) else none
 | _,_=>none
def yY:List (Nat×Nat)->Nat->Nat
 | [],_=>0
 | (i,n)::r,t=>bif Av i t then n else yY r t
def uP (op:BinOp) (c:Bool):OR:=
 match op with
 | .eql=>.val (.bool c)
 | .neq=>.val (.bool (!c))
 | _=>.no
def aGj (op:BinOp) (xs:List AVal):OR:=
 match op with
 | .eql=>.nilq xs false
 | .neq=>.nilq xs true
 | _=>.no
def isC:Operand->Bool
 | .const _=>true
 | _=>false
def aG5 (E:Env) (og:Nat->AObj) (d:Bool) (op:BinOp) (t:Nat) (a b:AVal):OR:=
 match a,b with
 | .int k x,.int k' y=>
  (match op with
  | .shl=>.need (0<=y) (.alt (y.toNat<=k.bits/\inR k (x*2 ^ y.toNat)) (.int k (x*2 ^ y.toNat)) (.int k (k.wrap (x*2 ^ (min y.toNat k.bits)))))
  | .shr=>.need (0<=y/\y.toNat<=k.bits) (.val (.int k (x.fdiv (2 ^ y.toNat))))
  | op=>bif aAH k k' then aIt op k x y else .no)
 | .str x,.str y=>
  (match op with
  | .add=>.need (((x.length+y.length:Nat):Int)<=9223372036854775807) (.val (.str (x++y)))
  | .eql=>.val (.bool (x==y))
  | .neq=>.val (.bool (!(x==y)))
  | .lss=>.val (.bool (Op.bytesLess x y))
  | .leq=>.val (.bool (Op.bytesLess x y||x==y))
  | .gtr=>.val (.bool (!(Op.bytesLess x y||x==y)))
  | .geq=>.val (.bool (!Op.bytesLess x y))
  | _=>.no)
 | .agg xs,.agg ys=>
  bif Eg 0 (yY E.fl t)&&Av (MQ xs) (yY E.fl t) then
   (match op,ceq xs ys with
   | .eql,some c=>.val (.bool c)
   | .neq,some c=>.val (.bool (!c))
   | _,_=>.no)
  else .no
 | a,b=>match cU E.T t with
  | none=>.no
  | some f=>match f.kind,a,b with
   | .bool,.bool x,.bool y=>uP op (x==y)
   | .slc _ _ _,.slice _ _ .nil,.nilslice=>uP op true
   | .slc _ _ _,.nilslice,.nilslice=>uP op true
   | .slc _ _ _,.slice _ xs _,.nilslice=>aGj op xs
   | .ptr _,.nilptr,.nilptr=>uP op true
   | .ptr _,.ref _ _,.nilptr=>uP op false
   | .ptr _,.ptr _,.nilptr=>uP op false
   | .ptr e,.ref k o,.ref k' o'=>(match cU E.T e with
    | some _=>bif Av k k'&&Av o o' then uP op true else .no
    | none=>.no)
   | .iface,.nilif,.nilif=>bif d then uP op true else .no
   | .iface,.iface _ _,.nilif=>uP op false
   | .iface,.nilif,.iface _ _=>uP op false
   | _,_,_=>.no
def mk (a:TI) (l:List AVal):Option AVal:=
 bif a.agg then some (.agg l) else match l with
  | [c]=>some c
  | _=>none
def fin (a:TI) (l:Option (List AVal)):OR:=
 match l with
 | none=>.no
 | some l=>match mk a l with
  | none=>.no
  | some v=>.val v
def TL (E:Env) (og:Nat->AObj) (t:Nat) (a:AVal):OR:=
 match cU E.T t with
 | none=>.no
 | some b=>match a with
  | .ptr cs=>fin b (lB b.size cs)
  | .ref k off=>(match og k with
   | .cells _ cs=>fin b (lB b.size (jH off cs))
   | .fcells cs=>fin b (lB b.size (jH off cs))
   | _=>.no)
  | .eref k g i sz off=>(match og k with
   | .row d c _ xs=>bif Av g d&&Av sz c then .elem xs i fun x=>fin b (lB b.size (jH off x.cells)) else .no
   | _=>.no)
  | _=>.no
def aE9:List AVal->AVal
 | [c]=>c
 | _=>.undef
def aF4 (x:AVal) (cs:List AVal):AVal:=
 match x with
 | .agg _=>.agg cs
 | _=>aE9 cs
def PY (E:Env) (og:Nat->AObj) (t:Nat) (a v:AVal):OR:=
 match cU E.T t with
 | none=>.no
 | some c=>
  bif oE v.cells&&Av (MQ v.cells) c.size then
   match a with
   | .ref k off=>(match og k with
    | .cells T cs=>(match mG off v.cells cs with
     | some cs=>.upd k (.cells T cs) .undef
     | none=>.no)
    | _=>.no)
   | .eref k g i sz off=>(match og k with
    | .row d b e xs=>
     bif ((Av g d&&Av sz b)&&Ff 1 sz)&&oE (pureV og 4 v).cells then
            (bif Av off 0&&Av c.size sz then .need (i<xs.length) (.upd k (.row g sz e (xs.set i (pureV og 4 v))) .undef)
            else .elem xs i fun x=>match mG off (pureV og 4 v).cells x.cells with
             | some cs=>.upd k (.row g sz e (xs.set i (aF4 x cs))) .undef
             | none=>.no)
     else .no
    | _=>.no)
   | _=>.no
  else .no
def P7 (E:Env) (s:Nat) (a:AVal) (f:Nat):OR:=
 match cU E.T s with
 | some {kind:=.strct fs,..}=>(match nth fs f with
  | none=>.no
  | some (off,sz,ag)=>match a with
   | .agg cs=>(match lB sz (jH off cs) with
    | none=>.no
    | some l=>bif ag then .val (.agg l) else match l with
     | [c]=>.val c
     | _=>.no)
   | _=>.no)
 | _=>.no
def tK (E:Env) (s:Nat) (a:AVal) (f:Nat):OR:=
 match cU E.T s with
 | some {kind:=.strct fs,..}=>(match nth fs f with
  | none=>.no
  | some (off,sz,_)=>
   bif Av sz 0 then .no else
   match a with
   | .ptr cs=>.val (.ptr (jH off cs))
   | .ref k x=>.val (.ref k (x+off))
   | .eref k g i z x=>.val (.eref k g i z (x+off))
   | _=>.no)
 | _=>.no
def tJ (E:Env) (og:Nat->AObj) (t:Nat) (a i:AVal):OR:=
 match cU E.T t,i with
 | some ti,.int _ n=>(match ti.kind with
  | .slc _ b _=>(match a with
   | .slice sz xs _=>bif Av sz b then .idx n fun i=>.elem xs i fun x=>.val (.ptr x.cells) else .no
   | .row k g=>(match og k with
    | .row c sz _ xs=>bif Av g c&&Av sz b then .idx n fun i=>.need (i<xs.length) (.val (.eref k g i sz 0)) else .no
    | .frow c sz xs=>bif Av g c&&Av sz b then .idx n fun i=>.elem xs i fun x=>.val (.ptr x.cells) else .no
    | _=>.no)
   | .sub k g lo len sz=>(match og k with
    | .row c d _ _=>bif (Av g c&&Av sz d)&&Av sz b then .idx n fun i=>.need (i<len) (.val (.eref k g (lo+i) sz 0)) else .no
    | _=>.no)
   | _=>.no)
  | .arr len b _=>(match a with
   | .ref k off=>.need (0<=n/\n.toNat<len) (.val (.ref k (off+n.toNat*b)))
   | .ptr cs=>.need (0<=n/\n.toNat<len) (.val (.ptr (jH (n.toNat*b) cs)))
   | _=>.no)
  | _=>.no)
 | _,_=>.no
def P6 (E:Env) (t:Nat) (a i:AVal):OR:=
 match a,i with
 | .str l,.int _ n=>(match cU E.T t with
  | some {kind:=.str,..}=>.idx n fun i=>.byte l i
  | _=>.no)
 | .agg cs,.int _ n=>(match cU E.T t with
  | some {kind:=.arr len esz ag,..}=>(match lB esz (jH (n.toNat*esz) cs) with
   | some l=>bif ag then .need (0<=n/\n<len) (.val (.agg l)) else (match l with | [c]=>.need (0<=n/\n<len) (.val c) | _=>.no)
   | none=>.no)
  | _=>.no)
 | _,_=>.no
def C9 (place:Nat->Option (Nat×Nat)):List AVal->List (Nat×AVal)->Option (List AVal)
 | cs,[]=>some cs
 | cs,(i,v)::r=>match place i with
  | none=>none
  | some (off,sz)=>bif BV v&&Av (MQ v.cells) sz then (match mG off v.cells cs with | some cs=>C9 place cs r | none=>none) else none
def P9 (E:Env) (t:Nat) (a:List (Nat×AVal)):OR:=
 match cU E.T t with
 | some b=>(match b.kind,b.zero with
  | .strct fs,.agg z=>(match C9 (fun i=>(nth fs i).map fun f=>(f.1,f.2.1)) z a with
   | some cs=>.val (.agg cs)
   | none=>.no)
  | .arr _ esz _,.agg z=>(match C9 (fun i=>some (i*esz,esz)) z a with
   | some cs=>.val (.agg cs)
   | none=>.no)
  | _,_=>.no)
 | _=>.no
def oW (hint base sz:Nat) (e:TypeId) (xs:List AVal):OR:=
 match hint with
 | 2=>.born (.row 0 sz e xs) (.row base 0)
 | _=>.born (.tail 0 sz e) (.slice sz xs (.own base 0))
def DB (og:Nat->AObj) (a:Nat):Nat->List (Nat×AVal)->Option (List AVal)
 | _,[]=>some []
 | n,(i,v)::r=>(fun v=>bif Av i n&&Av (MQ v.cells) a&&oE v.cells then (match DB og a (n+1) r with | some l=>some (v::l) | none=>none) else none) (pureV og 4 v)
def ZU:List (Nat×AVal)->Nat
 | []=>0
 | _::r=>ZU r+1
def lU (E:Env) (hint base:Nat) (og:Nat->AObj) (t len:Nat) (a:List (Nat×AVal)):OR:=
 match cU E.T t with
 | some {kind:=.slc e esz _,..}=>
  bif Av (ZU a) len&&Ff (len*esz) 1000&&Ff 1 esz then
   match DB og esz 0 a with
   | some xs=>(match hint with | 0=>.val (.slice esz xs .full) | h=>oW h base esz e xs)
   | none=>.no
  else .no
 | _=>.no
def evL (ρ:Operand->AVal):List (Nat×Operand)->List (Nat×AVal)
 | []=>[]
 | (i,x)::r=>(i,ρ x)::evL ρ r
def evO (ρ:Operand->AVal):List Operand->List AVal
 | []=>[]
 | x::r=>ρ x::evO ρ r
def bnd:Option AVal->(Option Nat->OR)->OR
 | none,k=>k none
 | some (.int _ n),k=>.idx n fun i=>k (some i)
 | some _,_=>.no
def PZ (E:Env) (og:Nat->AObj) (t:Nat) (a:AVal) (lo c d:Option AVal):OR:=
 match cU E.T t with
 | none=>.no
 | some e=>match a with
  | .str l=>(match e.kind,d with
   | .str,none=>bnd lo fun lo=>bnd c fun c=>match lo,c with
    | none,none=>.val (.str l)
    | some x,none=>.need (x<=l.length) (.val (.str (l.drop x)))
    | none,some y=>.need (y<=l.length) (.val (.str (l.take y)))
    | some x,some y=>.need (x<=y/\y<=l.length) (.val (.str ((l.take y).drop x)))
   | _,_=>.no)
  | .slice sz xs _=>(match e.kind with
   | .slc _ b _=>bif Av sz b then
     (bnd lo fun lo=>bnd c fun c=>bnd d fun d=>match d with
     | none=>(match lo,c with
            | none,none=>.val (.slice sz xs .no)
            | some x,none=>.need (x<=xs.length) (.val (.slice sz (xs.drop x) .no))
            | none,some y=>.need (y<=xs.length) (.val (.slice sz (xs.take y) .no))
            | some x,some y=>.need (x<=y/\y<=xs.length) (.val (.slice sz ((xs.take y).drop x) .no)))
     | some m=>(match lo,c with
            | none,some y=>.need (y<=xs.length/\m=y) (.val (.slice sz (xs.take y) .full))
            | _,_=>.no))
    else .no
   | _=>.no)
  | .row k g=>(match e.kind,d,og k with
   | .slc _ b _,none,.row g' sz _ xs=>bif Av g g'&&Av sz b then
     (bnd lo fun lo=>bnd c fun c=>match lo,c with
     | none,none=>.val (.row k g)
     | some x,none=>.need (x<=xs.length) (.val (.sub k g x (xs.length-x) sz))
     | none,some y=>.need (y<=xs.length) (.val (.sub k g 0 y sz))
     | some x,some y=>.need (x<=y/\y<=xs.length) (.val (.sub k g x (y-x) sz)))
    else .no
   | _,_,_=>.no)
  | .sub k g f len sz=>(match e.kind,d,og k with
   | .slc _ b _,none,.row g' sz' _ xs=>bif (Av g g'&&Av sz sz')&&Av sz b then
     (bnd lo fun lo=>bnd c fun c=>match lo,c with
     | none,none=>.val (.sub k g f len sz)
     | some x,none=>.need (x<=len) (.val (.sub k g (f+x) (len-x) sz))
     | none,some y=>.need (f+y<=xs.length) (.val (.sub k g f y sz))
     | some x,some y=>.need (x<=y/\f+y<=xs.length) (.val (.sub k g (f+x) (y-x) sz)))
    else .no
   | _,_,_=>.no)
  | .ref k off=>(match e.kind,lo,c,d with
   | .arr len b _,none,none,none=>.need ((len:Int)<=9223372036854775807) (.val (.csl k off len b))
   | _,_,_,_=>.no)
  | .ptr cs=>(match e.kind,lo,c,d with
   | .arr len 1 false,none,none,none=>(match lB len cs with
    | some l=>bif oE l then .need ((len:Int)<=9223372036854775807) (.val (.slice 1 l .full)) else .no
    | none=>.no)
   | _,_,_,_=>.no)
  | _=>.no
def ub (c:UInt8):AVal:=.int .u8 c.toNat
def aCG (og:Nat->AObj):AVal->Option (Nat×List AVal)
 | .slice sz xs _=>some (sz,xs)
 | .row k g=>(match og k with
  | .row a sz _ xs=>bif Av g a then some (sz,xs) else none
  | .frow a sz xs=>bif Av g a then some (sz,xs) else none
  | _=>none)
 | .sub k g lo len sz=>(match og k with
  | .row a b _ xs=>bif Av g a&&Av sz b then some (sz,(xs.drop lo).take len) else none
  | _=>none)
 | _=>none
def XZ (E:Env) (og:Nat->AObj) (a b:Nat) (x:AVal):Option (List AVal):=
 match x with
 | .str l=>(match cU E.T b with | some {kind:=.str,..}=>bif Av a 1 then some (l.map ub) else none | _=>none)
 | .nilslice=>(match cU E.T b with | some {kind:=.slc _ _ _,..}=>some [] | _=>none)
 | x=>match cU E.T b,aCG og x with
  | some {kind:=.slc _ _ _,..},some (sz,xs)=>bif Av sz a then some xs else none
  | _,_=>none
def aBA (E:Env) (og:Nat->AObj) (s d:Nat) (a:AVal):OR:=
 match cU E.T s,cU E.T d with
 | some ts,some td=>(match td.kind,a with
  | .int k,.int _ n=>.alt (inR k n) (.int k n) (.int k (k.wrap n))
  | .str,.str l=>(match ts.kind with | .str=>.val (.str l) | _=>.no)
  | .slc e 1 _,.str l=>(match ts.kind,cU E.T e with
   | .str,some {kind:=.int .u8,..}=>.val (.slice 1 (l.map ub) .no)
   | _,_=>.no)
  | .str,a=>(match ts.kind,aCG og a with
   | .slc e 1 _,some (1,xs)=>(match cU E.T e with
    | some {kind:=.int .u8,..}=>.text xs
    | _=>.no)
   | _,_=>.no)
  | _,_=>.no)
 | _,_=>.no
def aG0 (E:Env) (og:Nat->AObj) (t:Nat) (a:AVal):OR:=
 match cU E.T t with
 | none=>.no
 | some c=>match c.kind,a with
  | .str,.str l=>.val (.int .i64 l.length)
  | .slc _ _ _,.slice _ xs _=>.val (.int .i64 xs.length)
  | .slc _ _ _,.nilslice=>.val (.int .i64 0)
  | .slc _ _ _,.csl _ _ len _=>.val (.int .i64 len)
  | .slc _ _ _,.hsl _ n _=>.need ((n:Int)<=9223372036854775807) (.val (.int .i64 n))
  | .slc _ _ _,.row k g=>(match og k with
   | .row b _ _ xs=>bif Av g b then .val (.int .i64 xs.length) else .no
   | .frow b _ xs=>bif Av g b then .val (.int .i64 xs.length) else .no
   | _=>.no)
  | .slc _ _ _,.sub _ _ _ len _=>.val (.int .i64 len)
  | .arr n _ _,_=>.need ((n:Int)<=9223372036854775807) (.val (.int .i64 n))
  | _,_=>.no
def yX (n a:Nat):Prop:=n<=maxLen/\n*a<=140737488355328
def rX (E:Env) (hint base:Nat) (og:Nat->AObj) (t d:Nat) (s x:AVal):OR:=
 match cU E.T t with
 | some {kind:=.slc e esz eb,..}=>
  bif Ff 1 esz then
   match XZ E og esz d x with
   | none=>.no
   | some ys=>(match s with
    | .slice sz xs f=>(match f with
     | .own k g=>(match og k with
      | .tail b a c=>bif ((Av g b&&Av sz a)&&Av sz esz)&&Av e c then .need (yX (xs.length+ys.length) eb) (.upd k (.tail (g+1) esz e) (.slice esz (xs++ys) (.own k (g+1)))) else .no
      | _=>.no)
     | .nil=>bif Av sz esz then .need (yX ys.length eb) (oW hint base esz e ys) else .no
     | .full=>bif Av sz esz then .need (yX (xs.length+ys.length) eb) (match hint with | 0=>.val (.slice esz (xs++ys) .no) | 3=>.need (ys=[]) (.val (.slice esz xs .full)) | h=>.need (ys≠[]) (oW h base esz e (xs++ys))) else .no
     | .no=>.no)
    | .nilslice=>.need (yX ys.length eb) (oW hint base esz e ys)
    | .row k g=>(match og k with
     | .row b sz c xs=>bif (Av g b&&Av sz esz)&&Av e c then .need (yX (xs.length+ys.length) eb) (.upd k (.row (g+1) sz e (xs++ys)) (.row k (g+1))) else .no
     | _=>.no)
    | .sub k g lo len sz=>(match og k with
     | .row b a c xs=>bif ((Av g b&&Av sz a)&&Av sz esz)&&Av e c then
       .need (lo+len+ys.length<=xs.length) (.upd k (.row g sz e (xs.take (lo+len)++ys++xs.drop (lo+len+ys.length))) (.sub k g lo (len+ys.length) sz)) else .no
     | _=>.no)
    | _=>.no)
  else .no
 | _=>.no
def aBz (E:Env) (og:Nat->AObj) (t f:Nat) (d x:AVal):OR:=
 match cU E.T t with
 | some {kind:=.slc e esz _,..}=>
  bif Ff 1 esz then
   match XZ E og esz f x with
   | none=>.no
   | some ys=>(match d with
    | .row k g=>(match og k with
     | .row a sz b xs=>bif Av g a&&Av sz esz then .upd k (.row g sz b (ys.take xs.length++xs.drop ys.length)) (.int .i64 (min ys.length xs.length:Nat)) else .no
     | _=>.no)
    | .sub k g lo len sz=>(match og k with
     | .row a c b xs=>bif (Av g a&&Av sz c)&&Av sz esz then
       .upd k (.row g sz b (xs.take lo++ys.take len++xs.drop (lo+min ys.length len))) (.int .i64 (min ys.length len:Nat)) else .no
     | _=>.no)
    | _=>.no)
  else .no
 | _=>.no
def P8 (E:Env) (og:Nat->AObj) (t:Nat) (d:AVal):OR:=
 match cU E.T t with
 | some {kind:=.slc e esz _,..}=>(match cU E.T e with
  | some b=>bif Ff 1 esz&&BV (pureV (fun _=>.dead) 4 b.zero) then (match d with
   | .sub k g lo len sz=>(match og k with
    | .row c a f xs=>bif (Av g c&&Av sz a)&&Av sz esz then
            .upd k (.row g sz f (xs.take lo++Ah len (pureV (fun _=>.dead) 4 b.zero)++xs.drop (lo+len))) (.tup []) else .no
    | _=>.no)
   | _=>.no) else .no
  | none=>.no)
 | _=>.no
def TJ (E:Env) (hint base:Nat) (t:Nat) (n c:AVal):OR:=
 match cU E.T t,n,c with
 | some {kind:=.slc e esz f,..},.int _ a,.int _ b=>(match cU E.T e with
  | some d=>bif Ff 1 esz&&BV (pureV (fun _=>.dead) 4 d.zero) then
    .idx a fun i=>.need (a=b/\(f:Int)*b<=281474976710656/\i<=maxLen) (.born (.row 0 esz e (Ah i (pureV (fun _=>.dead) 4 d.zero))) (.row base 0))
   else .no
  | none=>.no)
 | _,_,_=>.no
def LX:List AVal->Option (List Int)
 | []=>some []
 | .int .i64 n::r=>(match LX r with | some l=>some (n::l) | none=>none)
 | _=>none
def FN (E:Env) (k:Nat) (a:Bool) (v:AVal):Option (List Int):=
 match a with
 | false=>(match cU E.T k with
  | some {kind:=.int .i64,..}=>(match v with | .int .i64 n=>some [n] | _=>none)
  | _=>none)
 | true=>(match cU E.T k with
  | some _=>(match v with
   | .agg cs=>(match LX cs with
    | some l=>bif Eg 0 (yY E.fl k)&&Av (MQ cs) (yY E.fl k) then some l else none
    | none=>none)
   | _=>none)
  | none=>none)
def aZ:List (List Int×AVal)->List Int->Option AVal
 | [],_=>none
 | (k,v)::r,x=>if k=x then some v else aZ r x
def jC:List (List Int×AVal)->List Int->AVal->List (List Int×AVal)
 | [],x,y=>[(x,y)]
 | (k,v)::r,x,y=>if k=x then (x,y)::r else (k,v)::jC r x y
def EB:List (List Int×AVal)->List Int->List (List Int×AVal)
 | [],_=>[]
 | (k,v)::r,x=>if k=x then r else (k,v)::EB r x
def zR (a:Bool) (es:List (List Int×AVal)) (key:List Int) (r:OR):OR:=
 match a with
 | false=>r
 | true=>.need (∀ p∈es,p.1.length=key.length) r
def I0 (E:Env) (og:Nat->AObj) (t:Nat) (m k:AVal) (ok:Bool):OR:=
 match cU E.T t,m with
 | some {kind:=.mp kt e,..},.mref j=>(match cU E.T e,og j with
  | some te,.mp ag es=>(match FN E kt ag k with
   | some key=>zR ag es key (.find es key fun o=>match o with
    | some v=>.val (bif ok then .tup [v,.bool true] else v)
    | none=>.val (bif ok then .tup [te.zero,.bool false] else te.zero))
   | none=>.no)
  | _,_=>.no)
 | _,_=>.no
def P5 (E:Env) (og:Nat->AObj) (t:Nat) (m k v:AVal):OR:=
 match cU E.T t,m with
 | some {kind:=.mp kt _,..},.mref j=>(match og j with
  | .mp a es=>(match FN E kt a k with
   | some key=>(fun v=>bif BV v then zR a es key (.upd j (.mp a (jC es key v)) .undef) else .no) (pureV og 4 v)
   | none=>.no)
  | _=>.no)
 | _,_=>.no
def IZ (E:Env) (og:Nat->AObj) (t:Nat) (m k:AVal):OR:=
 match cU E.T t,m with
 | some {kind:=.mp kt _,..},.mref j=>(match og j with
  | .mp a es=>(match FN E kt a k with
   | some key=>zR a es key (.upd j (.mp a (EB es key)) (.tup []))
   | none=>.no)
  | _=>.no)
 | _,_=>.no
def AR (E:Env) (ty:Nat):AVal->AVal
 | .nilslice=>(match cU E.T ty with | some {kind:=.slc _ esz _,..}=>.slice esz [] .nil | _=>.nilslice)
 | v=>v
def kZ (E:Env) (hint base:Nat) (og:Nat->AObj) (ρ:Operand->AVal) (op:Op) (ty:TypeId):OR:=
 match op with
 | .move x=>.val (ρ x)
 | .assign x=>(match hint with
  | 0=>.val (AR E ty (ρ x))
  | h=>match AR E ty (ρ x) with
   | .slice o xs t=>(match t with
    | .nil=>(match xs with
          | []=>(match cU E.T ty with | some {kind:=.slc e esz' _,..}=>bif Av o esz'&&Ff 1 o then oW h base o e [] else .no | _=>.no)
          | _::_=>.no)
    | t=>.val (.slice o xs t))
   | v=>.val v)
 | .pick c a b=>(match ρ c with
  | .bool true=>.val (ρ a)
  | .bool false=>.val (ρ b)
  | _=>.no)
 | .alloc t=>(match cU E.T t with
  | some j=>bif oE j.zero.cells then .born (.cells t j.zero.cells) (.ref base 0) else .no
  | none=>.no)
 | .box t x=>(fun v=>bif oE v.cells then .born (.cells t v.cells) (.ref base 0) else .no) (ρ x)
 | .build t w=>P9 E t (evL ρ w.toList)
 | .buildSlice t n w=>lU E hint base og t n (evL ρ w.toList)
 | .load t a=>(TL E og t (ρ a)).bind fun v=>.val (AR E t v)
 | .store t a x=>PY E og t (ρ a) (AR E t (ρ x))
 | .nilCheck x=>(match ρ x with
  | .ref k off=>.val (.ref k off)
  | .eref k g i sz off=>.val (.eref k g i sz off)
  | .ptr cs=>.val (.ptr cs)
  | .func (.func f) p cs=>.val (.func (.func f) p cs)
  | .func (.yield f) p cs=>.val (.func (.yield f) p cs)
  | .iface t v=>.val (.iface t v)
  | _=>.no)
 | .binOp op t x y _=>aG5 E og (isC x||isC y) op t (ρ x) (ρ y)
 | .unOp op _ x=>(match op,ρ x with
  | .not,.bool b=>.val (.bool (!b))
  | .neg,.int k n=>DE k (0-n)
  | .xor,.int k n=>.val (.int k (iX .xor k (if k.signed then -1 else k.max) n))
  | _,_=>.no)
 | .convert s d x=>aBA E og s d (ρ x)
 | .makeSlice t n c=>TJ E hint base t (ρ n) (ρ c)
 | .makeInterface t x=>(match cU E.T t with
  | some j=>(match j.kind with | .iface=>.no | _=>.val (.iface t (ρ x)))
  | none=>.no)
 | .makeFunc fn p cs=>.mkf fn (evO ρ p.toList) (evO ρ cs.toList)
 | .slice t x lo A B=>PZ E og t (ρ x) (lo.map ρ) (A.map ρ) (B.map ρ)
 | .fieldAddr t x f=>tK E t (ρ x) f
 | .field t x f=>(P7 E t (ρ x) f).bind fun v=>.val (AR E ty v)
 | .indexAddr t x i=>tJ E og t (ρ x) (ρ i)
 | .index t x i=>P6 E t (ρ x) (ρ i)
 | .extract x i=>(match ρ x with
  | .tup vs=>(match nth vs i with | some v=>.val v | none=>.no)
  | _=>.no)
 | .panic x=>(match ρ x with
  | .iface t v=>(fun v=>bif BV v then .pan (.iface t v) else .no) (pureV og 3 v)
  | _=>.no)
 | .typeAssert x _ t ok=>(match cU E.T t,ρ x with
  | some j,.iface u v=>(match j.kind with
   | .iface=>.no
   | _=>bif Av u t then .val (bif ok then .tup [v,.bool true] else v) else (bif ok then .val (.tup [j.zero,.bool false]) else .no))
  | some j,.nilif=>(match j.kind with
   | .iface=>.no
   | _=>bif ok then .val (.tup [j.zero,.bool false]) else .no)
  | _,_=>.no)
 | .makeMap t none=>(match cU E.T t with
  | some {kind:=.mp k _,..}=>(match cU E.T k with
   | some z=>.born (.mp z.agg []) (.mref base)
   | none=>.no)
  | _=>.no)
 | .lookup t m k ok=>I0 E og t (ρ m) (ρ k) ok
 | .mapUpdate t m k v=>P5 E og t (ρ m) (ρ k) (ρ v)
 | .call c=>(match c.callee with
  | .value f=>(match ρ f with
   | .func (.func g) p cs=>.call (.func g) (WY (WY p (evO ρ c.args.toList)) cs)
   | .func (.yield l) p _=>.call (.yield l) (WY p (evO ρ c.args.toList))
   | _=>.no)
  | .invoke r q=>(match ρ r with
   | .iface t v=>(match aAr E.mt t q with
    | some g=>.call (.func g) (v::evO ρ c.args.toList)
    | none=>.no)
   | _=>.no)
  | .builtin b=>(match b,c.args.toList,c.argTypes.toList with
   | .len,[x],[t]=>aG0 E og t (ρ x)
   | .min,[x,y],_=>(match ρ x,ρ y with | .int k a,.int k' b=>bif aAH k k' then .val (.int k (min a b)) else .no | _,_=>.no)
   | .max,[x,y],_=>(match ρ x,ρ y with | .int k a,.int k' b=>bif aAH k k' then .val (.int k (max a b)) else .no | _,_=>.no)
   | .append,[x,y],[t,t2]=>rX E hint base og t t2 (ρ x) (ρ y)
   | .copy,[x,y],[t,t2]=>aBz E og t t2 (ρ x) (ρ y)
   | .clear,[x],[t]=>P8 E og t (ρ x)
   | .delete,[m,k],[t,_]=>IZ E og t (ρ m) (ρ k)
   | _,_,_=>.no))
 | _=>.no
def nrm:AVal->AVal
 | .rowc k g _=>.row k g
 | .pre k g n _ sz=>.sub k g 0 n sz
 | v=>v
def aG3 (E:Env) (hint:Nat) (og:Nat->AObj) (t k g c:Nat) (h:AVal):OR:=
 match cU E.T t,og k,h with
 | some {kind:=.slc _ esz _,..},.row g' sz e xs,.int _ n=>bif (Av g g'&&Av sz esz)&&Ff 1 sz then
   .idx n fun y=>(match hint with
    | 0=>.need (y<=xs.length/\0<c) (.val (.pre k g y c sz))
    | _=>.need (xs.length<=y/\y<=c) (.upd k (.row (g+1) sz e (xs++Ah (y-xs.length) (.agg (Ah sz .undef)))) (.row k (g+1))))
  else .no
 | _,_,_=>.no
def aBy (E:Env) (og:Nat->AObj) (t k g:Nat) (l h m:AVal):OR:=
 match cU E.T t,og k,l,h,m with
 | some {kind:=.slc _ esz _,..},.row g' sz _ xs,.int _ a,.int _ b,.int _ c=>bif Av g g'&&Av sz esz then
   .idx a fun x=>.idx b fun y=>.idx c fun z=>.need ((x<=y/\y<=z)/\z<=xs.length) (.val .undef)
  else .no
 | _,_,_,_,_=>.no
def TF (E:Env) (base:Nat) (og:Nat->AObj) (t k g n c sz:Nat) (m:AVal):OR:=
 match cU E.T t,og k,m with
 | some {kind:=.slc e esz eb,..},.row g' sz' e' xs,.int .i64 a=>(match cU E.T e with
  | some b=>bif ((Av g g'&&Av sz sz')&&(Av sz esz&&Av e e'))&&(Ff 1 esz&&BV (pureV (fun _=>.dead) 4 b.zero)) then
    .idx a fun y=>.need (c<n+y/\yX (n+y) eb) (.born (.row 0 esz e (xs.take n++Ah y (pureV (fun _=>.dead) 4 b.zero))) (.row base 0))
   else .no
  | none=>.no)
 | _,_,_=>.no
def jT (E:Env) (hint base:Nat) (og:Nat->AObj) (ρ:Operand->AVal) (op:Op):Option OR:=
 match op with
 | .move x=>some (.val (ρ x))
 | .assign x=>(match ρ x with
  | .rowc k g c=>some (.val (.rowc k g c))
  | _=>none)
 | .slice t x none (some h) none=>(match ρ x with
  | .rowc k g c=>some (aG3 E hint og t k g c (ρ h))
  | _=>none)
 | .slice t x (some l) (some h) (some m)=>(match ρ x with
  | .row k g=>some (aBy E og t k g (ρ l) (ρ h) (ρ m))
  | _=>none)
 | .call c=>(match c.callee with
  | .builtin .cap=>(match c.args.toList,c.argTypes.toList with
   | [x],[t]=>(match ρ x,cU E.T t with
    | .rowc _ _ n,some {kind:=.slc _ _ _,..}=>some (.val (.int .i64 n))
    | _,_=>none)
   | _,_=>none)
  | .builtin .append=>(match c.args.toList,c.argTypes.toList with
   | [x,y],[t,t2]=>(match ρ x,cU E.T t2 with
    | .pre k g n c sz,some {kind:=.int _,..}=>some (TF E base og t k g n c sz (ρ y))
    | _,_=>none)
   | _,_=>none)
  | _=>none)
 | _=>none
def eop (E:Env) (hint base:Nat) (og:Nat->AObj) (ρ:Operand->AVal) (op:Op) (ty:TypeId):OR:=
 match jT E hint base og ρ op with
 | some r=>r
 | none=>kZ E hint base og (fun x=>nrm (ρ x)) op ty
def KDL (f:AVal->(AVal->Prop)->Prop):List AVal->(List AVal->Prop)->Prop
 | [],k=>k []
 | c::r,k=>f c fun c=>KDL f r fun r=>k (c::r)
def KD:Nat->AVal->(AVal->Prop)->Prop
 | 0,v,k=>k v
 | n+1,v,k=>match v with
  | .undef=>k .undef
  | .bool b=>k (.bool b)
  | .int i n=>k (.int i n)
  | .str l=>k (.str l)
  | .slice sz xs t=>(match t with | .no=>k (.slice sz xs .no) | .nil=>k (.slice sz xs .nil) | .full=>k (.slice sz xs .full) | .own a b=>k (.slice sz xs (.own a b)))
  | .agg cs=>KDL (KD n) cs fun cs=>k (.agg cs)
  | .tup cs=>KDL (KD n) cs fun cs=>k (.tup cs)
  | .ptr cs=>k (.ptr cs)
  | .ref a b=>k (.ref a b)
  | .eref a b c d e=>k (.eref a b c d e)
  | .csl a b c d=>k (.csl a b c d)
  | .row a b=>k (.row a b)
  | .sub a b c d e=>k (.sub a b c d e)
  | .rowc a b c=>k (.rowc a b c)
  | .pre a b c d e=>k (.pre a b c d e)
  | .mref a=>k (.mref a)
  | .nilptr=>k .nilptr
  | .nilslice=>k .nilslice
  | .nilmap=>k .nilmap
  | .nilfunc=>k .nilfunc
  | .nilif=>k .nilif
  | .hsl a n c=>k (.hsl a n c)
  | .func fn f cs=>k (.func fn f cs)
  | .iface t v=>KD n v fun v=>k (.iface t v)
theorem JO {f:AVal->(AVal->Prop)->Prop} (b:∀ v k,f v k=k v) (l:List AVal):∀ (k:List AVal->Prop),KDL f l k=k l:=by
 induction l with
 | nil=>intro k;rfl
 | cons c r a=>intro k;simp only [KDL,b,a]
theorem jI (n:Nat):∀ (v:AVal) (k:AVal->Prop),KD n v k=k v:=by
 induction n with
 | zero=>intro v k;rfl
 | succ n a=>
  intro v k
  cases v<;>simp only [KD,JO a,a]
  grind
def OD (x:AObj) (k:AObj->Prop):Prop:=
 match x with
 | .dead=>k .dead
 | .cells T cs=>KDL (KD 3) cs fun cs=>k (.cells T cs)
 | .fcells cs=>KDL (KD 3) cs fun cs=>k (.fcells cs)
 | .row g sz e xs=>k (.row g sz e xs)
 | .frow g sz xs=>k (.frow g sz xs)
 | .tail g sz e=>k (.tail g sz e)
 | .mp a es=>k (.mp a es)
 | .bun g I=>k (.bun g I)
theorem aB9 (x:AObj) (k:AObj->Prop):OD x k=k x:=by cases x<;>simp only [OD,JO (jI 3)]
def ODL:List AObj->(List AObj->Prop)->Prop
 | [],k=>k []
 | c::r,k=>OD c fun c=>ODL r fun r=>k (c::r)
theorem oZ (l:List AObj):∀ (k:List AObj->Prop),ODL l k=k l:=by
 induction l with
 | nil=>intro k;rfl
 | cons c r a=>intro k;simp only [ODL,aB9,a]
def BG:List (Nat×AVal)->Nat->AVal->(List (Nat×AVal)->Prop)->Prop
 | [],n,x,k=>k [(n,x)]
 | (i,v)::r,n,x,k=>bif Av i n then k ((n,x)::r) else BG r n x fun r=>k ((i,v)::r)
theorem jO (l:List (Nat×AVal)) (n:Nat) (x:AVal):∀ (k:List (Nat×AVal)->Prop),BG l n x k=k (gU l n x):=by
 induction l with
 | nil=>intro k;rfl
 | cons c r a=>intro k;obtain ⟨i,v⟩:=c;simp only [BG,gU,a];grind
def pos (k:Nat):Nat->List Nat->Option Nat
 | _,[]=>none
 | j,x::r=>bif Av x k then some j else pos k (j+1) r
def eB:AObj->Nat
 | .row g _ _ _=>g
 | .tail g _ _=>g
 | .bun g _=>g
 | _=>0
def gm (n0 j a g:Nat):Option Nat:=
 bif Av g a then some (bif Eg j n0 then (bif Av a 0 then 0 else 1) else 0) else (bif Eg j n0&&Av g 0 then some 0 else none)
def cvtV (n0:Nat) (ks:List Nat) (og:Nat->AObj):Nat->AVal->AVal
 | 0,_=>.undef
 | n+1,v=>match v with
  | .slice sz xs t=>(match t with
   | .full=>.slice sz xs .full
   | .nil=>(match ks with | []=>.slice sz xs .no | _::_=>.slice sz xs .nil)
   | .own k g=>(match pos k 0 ks with
    | some j=>(match gm n0 j (eB (og k)) g with | some g=>.slice sz xs (.own j g) | none=>.slice sz xs .no)
    | none=>.slice sz xs .no)
   | _=>.slice sz xs .no)
  | .agg cs=>.agg (dH (cvtV n0 ks og n) cs)
  | .tup cs=>.tup (dH (cvtV n0 ks og n) cs)
  | .func fn a cs=>.func fn (dH (cvtV n0 ks og n) a) (dH (cvtV n0 ks og n) cs)
  | .iface t v=>.iface t (cvtV n0 ks og n v)
  | .ref k off=>(match pos k 0 ks with
   | some j=>(match gm n0 j (eB (og k)) 0 with | some _=>.ref j off | none=>.undef)
   | none=>pureV og 1 (.ref k off))
  | .csl k off len sz=>(match pos k 0 ks with
   | some j=>(match gm n0 j (eB (og k)) 0 with | some _=>.csl j off len sz | none=>.undef)
   | none=>pureV og 1 (.csl k off len sz))
  | .row k g=>(match pos k 0 ks with
   | some j=>(match gm n0 j (eB (og k)) g with | some g=>.row j g | none=>.undef)
   | none=>pureV og 1 (.row k g))
  | .sub k g lo len sz=>(match pos k 0 ks with
   | some j=>(match gm n0 j (eB (og k)) g with | some g=>.sub j g lo len sz | none=>.undef)
   | none=>pureV og 1 (.sub k g lo len sz))
  | .mref k=>(match pos k 0 ks with | some j=>(match gm n0 j (eB (og k)) 0 with | some _=>.mref j | none=>.undef) | none=>.undef)
  | .eref _ _ _ _ _=>.undef
  | .rowc _ _ _=>.undef
  | .pre _ _ _ _ _=>.undef
  | v=>v
def EH (n0:Nat) (ks:List Nat) (obs:List AObj) (j:Nat):AObj->AObj
 | .cells T cs=>.cells T (dH (cvtV n0 ks (aC obs) 4) cs)
 | .row g sz e xs=>.row (match gm n0 j g g with | some g=>g | none=>0) sz e xs
 | .tail g sz e=>.tail (match gm n0 j g g with | some g=>g | none=>0) sz e
 | .bun g I=>.bun (match gm n0 j g g with | some g=>g | none=>0) I
 | o=>o
def pS (n0:Nat) (ks:List Nat) (obs:List AObj):Nat->List Nat->List AObj
 | _,[]=>[]
 | j,k::r=>EH n0 ks obs j (aC obs k)::pS n0 ks obs (j+1) r
def fN (n0:Nat) (ks:List Nat) (obs:List AObj):List AObj:=pS n0 ks obs 0 ks
def iV:List Nat->List AObj->Bool
 | [],_=>true
 | k::r,obs=>(aC obs k).owns&& !sB k r&&iV r obs
def upto:Nat->Nat->List Nat
 | _,0=>[]
 | j,n+1=>j::upto (j+1) n
def lF:Nat->Nat->List Nat->Bool
 | 0,_,_=>true
 | n+1,j,k::r=>Av k j&&lF n (j+1) r
 | _+1,_,[]=>false
def dO (ks:List Nat) (base j:Nat):Nat:=match nth ks j with | some k=>k | none=>base+(j-(olenN ks))
where olenN:List Nat->Nat
 | []=>0
 | _::r=>olenN r+1
def gX (ks:List Nat) (obs:List AObj) (j g:Nat):Nat:=match nth ks j with | some k=>eB (aC obs k)+g | none=>g
def embV (ks:List Nat) (base:Nat) (obs:List AObj):Nat->AVal->AVal
 | 0,_=>.undef
 | n+1,v=>match v with
  | .slice sz xs t=>(match t with
   | .own j g=>.slice sz xs (.own (dO ks base j) (gX ks obs j g))
   | t=>.slice sz xs t)
  | .agg cs=>.agg (dH (embV ks base obs n) cs)
  | .tup cs=>.tup (dH (embV ks base obs n) cs)
  | .func fn a cs=>.func fn (dH (embV ks base obs n) a) (dH (embV ks base obs n) cs)
  | .iface t v=>.iface t (embV ks base obs n v)
  | .ref j off=>.ref (dO ks base j) off
  | .csl j off len sz=>.csl (dO ks base j) off len sz
  | .row j g=>.row (dO ks base j) (gX ks obs j g)
  | .sub j g lo len sz=>.sub (dO ks base j) (gX ks obs j g) lo len sz
  | .mref j=>.mref (dO ks base j)
  | .eref _ _ _ _ _=>.undef
  | .rowc _ _ _=>.undef
  | .pre _ _ _ _ _=>.undef
  | v=>v
def oT (ks:List Nat) (base:Nat) (obs:List AObj) (j:Nat):AObj->AObj
 | .cells T cs=>.cells T (dH (embV ks base obs 4) cs)
 | .row g sz e xs=>.row (gX ks obs j g) sz e xs
 | .frow g sz xs=>.frow (gX ks obs j g) sz xs
 | .tail g sz e=>.tail (gX ks obs j g) sz e
 | .bun g I=>.bun (gX ks obs j g) I
 | o=>o
def fI (ks:List Nat) (base:Nat) (obs:List AObj):Nat->List AObj->List AObj->List AObj
 | _,[],l=>l
 | j,o::r,l=>fI ks base obs (j+1) r (bH l (dO ks base j) (oT ks base obs j o))
inductive Res where
 | ret (a:AVal)
 | pan (a:AVal)
def rD (M:Imm) (ob:Hs):Ending->Res->Prop
 | .returned v,.ret a=>Rep M ob v a
 | .panicked ch,.pan a=>∃ v,ch=[{v,recovered:=false}]/\Rep M ob v a
 | _,_=>False
def bT (M:Imm) (ob:Hs) (vs:List Value) (as:List AVal):Prop:=
 vs.length=as.length/\∀ (i:Nat) v a,vs[i]? =some v->as[i]? =some a->Rep M ob v a
def gS (P:Program) (f:FuncId) (a:Array Value) (w:World) (R:Ending->World->Prop):Prop:=
 ((callFunc f a).run P w= .ok (.enter f a) w/\Calls P f a w R)\/∃ u w',(callFunc f a).run P w= .ok (.value u) w'/\R (.returned u) w'
def W5 (P:Program) (l:Nat) (b:Array Value) (w:World) (R:Ending->World->Prop):Prop:=
 ∃ f tmps as a,(Instr.yield l b).run P w= .ok (.round l f tmps as a) w/\RoundIn Fence.wide 0 P l f tmps as a w R
def DK:Fn->Array Value->Sem Next
 | .func f,va=>callFunc f va
 | .yield l,va=>Instr.yield l va
 | _,va=>callFunc 0 va
@[reducible] def cE (P:Program) (f:Fn) (va:Array Value) (w:World) (R:Ending->World->Prop):Prop:=
 match f with
 | .func f=>gS P f va w R
 | .yield l=>W5 P l va w R
 | _=>False
def bE (P:Program) (f:Fn) (args:List AVal) (obs:List AObj) (r:Res) (obs':List AObj):Prop:=
 ∀ M ob w a,Mem M ob obs w->bT M ob a args->
  cE P f a.toArray w fun e w'=>∃ M' ob',Ext M ob obs w M' ob' obs' w'/\Mem M' ob' obs' w'/\rD M' ob' e r
abbrev aA (P:Program) (f:FuncId) (args:List AVal) (obs:List AObj) (r:Res) (obs':List AObj):Prop:=bE P (.func f) args obs r obs'
inductive CallG (P:Program) (f:Fn) (args:List AVal) (obs:List AObj) (K:AVal->List AObj->Prop) (Kp:AVal->List AObj->Prop):Prop
 | pure (r:AVal) (new:List AObj) (h:bE P f (dH (cvtV 0 [] (aC (frzL obs args)) 5) args) [] (.ret r) new) (k:K (embV [] (aM obs) (frzL obs args) 5 r) (fI [] (aM obs) (frzL obs args) 0 new (frzL obs args)))
 | eff (fz ks:List Nat) (r:AVal) (obs':List AObj) (hk:iV ks (frzs fz obs)=true) (h:bE P f (dH (cvtV 0 ks (aC (frzs fz obs)) 5) args) (fN 0 ks (frzs fz obs)) (.ret r) obs')
   (k:K (embV ks (aM (frzs fz obs)) (frzs fz obs) 5 r) (fI ks (aM (frzs fz obs)) (frzs fz obs) 0 obs' (frzs fz obs)))
 | effp (fz ks:List Nat) (r:AVal) (obs':List AObj) (hk:iV ks (frzs fz obs)=true) (h:bE P f (dH (cvtV 0 ks (aC (frzs fz obs)) 5) args) (fN 0 ks (frzs fz obs)) (.pan r) obs')
   (k:Kp (embV ks (aM (frzs fz obs)) (frzs fz obs) 5 r) (fI ks (aM (frzs fz obs)) (frzs fz obs) 0 obs' (frzs fz obs)))
 | pan (r:AVal) (h:bE P f (dH (cvtV 0 [] (aC (frzL obs args)) 5) args) [] (.pan r) []) (k:Kp r (frzL obs args))
inductive CallD (P:Program) (f:Fn) (args:List AVal) (so:Bool) (seen:List AObj) (base:Nat) (obs:List AObj) (K:AVal->List AObj->Prop) (Kp:AVal->List AObj->Prop):Prop
 | pure (r:AVal) (new:List AObj) (h:bE P f (dH (cvtV 0 [] (aC seen) 5) args) [] (.ret r) new) (k:K (embV [] base seen 5 r) (fI [] base seen 0 new obs)):CallD P f args so seen base obs K Kp
 | sole (h:so=true) (h:CallG P f args obs K Kp):CallD P f args so seen base obs K Kp
 | look (ks:List Nat) (r:AVal) (obs':List AObj) (hk:iV ks seen=true) (hl:obs'.length=ks.length) (h:bE P f (dH (cvtV 0 ks (aC seen) 5) args) (fN 0 ks seen) (.ret r) obs') (hi:∀ b,fI ks b seen 0 obs' seen=seen) (hz:∀ b,embV ks b seen 5 r=r) (k:K r obs):CallD P f args so seen base obs K Kp
def orF (P:Program) (obs:List AObj) (K:AVal->List AObj->Prop) (Kp:AVal->List AObj->Prop):OR->Prop
 | .no=>False
 | .val v=>K v obs
 | .mkf fn d cs=>K (.func fn d cs) obs
 | .need p r=>p/\orF P obs K Kp r
 | .alt p v w=>(p/\K v obs)\/K w obs
 | .idx n f=>∃ i:Nat,n=(i:Int)/\orF P obs K Kp (f i)
 | .elem xs i f=>∃ x,xs[i]? =some x/\orF P obs K Kp (f x)
 | .byte l i=>∃ c,l[i]? =some c/\K (.int .u8 (c.toNat:Int)) obs
 | .text xs=>∃ l:List UInt8,xs=l.map ub/\(l.length:Int)<=9223372036854775807/\K (.str l) obs
 | .find es key f=>∃ o,aZ es key=o/\orF P obs K Kp (f o)
 | .born x v=>K v (bH obs (aM obs) x)
 | .upd k x v=>K v (bH obs k x)
 | .nilq xs a=>∀ b:Bool,(b=true->xs=[])->K (.bool (if a then !b else b)) obs
 | .call f args=>CallG P f args obs K Kp
 | .pan v=>Kp v obs
def nd:AObj->Bool
 | .dead=>false
 | _=>true
def orD (P:Program) (d e bl:Bool) (a obs:List AObj) (base:Nat) (K:AVal->List AObj->Prop) (Kp:AVal->List AObj->Prop):OR->Prop
 | .val v=>K v obs
 | .mkf fn h cs=>K (.func fn h cs) obs
 | .need p r=>p/\orD P d e bl a obs base K Kp r
 | .alt p v w=>(p/\K v obs)\/K w obs
 | .idx n f=>∃ i:Nat,n=(i:Int)/\orD P d e bl a obs base K Kp (f i)
 | .elem xs i f=>∃ x,xs[i]? =some x/\orD P d e bl a obs base K Kp (f x)
 | .byte l i=>∃ c,l[i]? =some c/\K (.int .u8 (c.toNat:Int)) obs
 | .text xs=>∃ l:List UInt8,xs=l.map ub/\(l.length:Int)<=9223372036854775807/\K (.str l) obs
 | .find es key f=>∃ o,aZ es key=o/\orD P d e bl a obs base K Kp (f o)
 | .born x v=>(match bl with | true=>False | false=>K v (bH obs base x))
 | .upd k x v=>(match (d||(e&&nd (aC a k))) with | true=>K v (bH obs k x) | false=>False)
 | .nilq xs g=>(match d with | true=>∀ b:Bool,(b=true->xs=[])->K (.bool (if g then !b else b)) obs | false=>False)
 | .call f args=>(match bl with | true=>False | false=>CallD P f args d a base obs K Kp)
 | .pan v=>(match d with | true=>Kp v obs | false=>False)
 | .no=>False
def bZ (all:List Oper) (ρ:Operand->AVal) (g:Option (Nat×Bool)):Option Bool:=
 match g with
 | none=>some true
 | some (j,want)=>match nth all j with
  | some p=>match p.dst with
   | some d=>match ρ (.tmp d) with
    | .bool b=>some (b==want)
    | .tup []=>some false
    | _=>none
   | none=>none
  | none=>none
def uY (n:Nat):List Oper->Bool
 | []=>false
 | o::r=>(match o.guard with | some (j,_)=>Av j n | none=>false)||uY n r
def cZ (E:Env):Option Nat->Nat
 | none=>0
 | some d=>bif sB d E.own then (bif sB d E.rws then 3 else 1) else bif sB d E.rws then 2 else 0
def jN (fr:List (Nat×AVal)):Option Nat->AVal->List (Nat×AVal)
 | none,_=>fr
 | some d,v=>gU fr d v
def wrP (rest:List Oper) (n:Nat) (d:Option Nat) (fr:List (Nat×AVal)) (v:AVal) (k:List (Nat×AVal)->Prop):Prop:=
 match d with
 | none=>k fr
 | some d=>bif uY n rest then (match v with
   | .bool b=>(b=true->k (gU fr d (.bool true)))/\(b=false->k (gU fr d (.bool false)))
   | _=>False)
  else k (gU fr d v)
def dF (E:Env) (all:List Oper) (K:List (Nat×AVal)->List AObj->Prop) (Kp:(Nat->AVal)->AVal->List AObj->Prop):Nat->List Oper->List (Nat×AVal)->List AObj->Prop
 | _,[],fr,obs=>K fr obs
 | n,p::rest,fr,obs=>match bZ all (ev fr) p.guard with
  | none=>False
  | some false=>dF E all K Kp (n+1) rest (jN fr p.dst (.tup [])) obs
  | some true=>orF E.P obs (fun v obs=>wrP rest n p.dst fr v fun fr=>dF E all K Kp (n+1) rest fr obs) (Kp (aR fr))
    (eop E (cZ E p.dst) (aM obs) (aC obs) (ev fr) p.op p.type)
def fW (p:Oper):List Nat:=(p.after.toList.filter (Iw .any)).map (·.on)
def cF (m i:Nat):Bool:=Av (Nat.land (Nat.shiftRight m i) 1) 1
def dC:List Nat->Nat->Nat
 | [],_=>0
 | x::_,0=>x
 | _::r,n+1=>dC r n
def hD (tab:List Nat):List Nat->Nat
 | []=>0
 | i::r=>Lu (Lu (Nat.shiftLeft 1 i) (dC tab i)) (hD tab r)
def fL:List Nat->List Oper->List Nat
 | tab,[]=>tab
 | tab,p::r=>fL (tab++[hD tab (fW p)]) r
def aHS (n:Nat) (k:Nat->Prop):Prop:=match n with | 0=>k 0 | m+1=>k (m+1)
theorem aDv (n:Nat) (k:Nat->Prop):aHS n k=k n:=by cases n<;>rfl
def RN:List Nat->Nat->(List Nat->Prop)->Prop
 | [],m,k=>k [m]
 | x::r,m,k=>RN r m fun r=>k (x::r)
theorem X3 (l:List Nat) (m:Nat):∀ (k:List Nat->Prop),RN l m k=k (l++[m]):=by
 induction l with
 | nil=>intro k;rfl
 | cons x r a=>intro k;simp only [RN,a,Jd]
def TT:List Nat->List Oper->(List Nat->Prop)->Prop
 | tab,[],k=>k tab
 | tab,p::r,k=>aHS (hD tab (fW p)) fun m=>RN tab m fun tab=>TT tab r k
theorem aBY (l:List Oper):∀ (tab:List Nat) (k:List Nat->Prop),TT tab l k=k (fL tab l):=by
 induction l with
 | nil=>intro tab k;rfl
 | cons p r a=>intro tab k;simp only [TT,fL,aDv,X3,a]
def loose (tab:List Nat) (i j:Nat):Bool:=!Av i j&& !cF (dC tab j) i&& !cF (dC tab i) j
def L5 (tab:List Nat) (j t:Nat):Nat->List Oper->Bool
 | _,[]=>false
 | i,p::r=>(match p.dst with | some d=>Av d t&&loose tab i j | none=>false)||L5 tab j t (i+1) r
def evH (tab:List Nat) (all:List Oper) (j:Nat) (fr:List (Nat×AVal)):Operand->AVal
 | .tmp t=>bif L5 tab j t 0 all then .undef else aR fr t
 | x=>ev fr x
def pK:List Nat->List AObj->List AObj
 | [],obs=>obs
 | k::r,obs=>pK r (bH obs k .dead)
def EE (tab:List Nat) (j:Nat):List (Nat×Nat)->List Nat
 | []=>[]
 | (i,k)::r=>bif cF (dC tab j) i then EE tab j r else k::EE tab j r
def sole (tab:List Nat) (j:Nat):Nat->List Oper->Bool
 | _,[]=>true
 | i,_::r=>!loose tab i j&&sole tab j (i+1) r
def blD (E:Env):Option Nat->Bool
 | none=>false
 | some d=>sB d E.bl
def EW (E:Env) (tab:List Nat) (j:Nat):Nat->List Oper->Bool
 | _,[]=>true
 | i,p::r=>(!loose tab i j||blD E p.dst)&&EW E tab j (i+1) r
def soN (E:Env) (tab:List Nat) (all:List Oper) (n:Nat) (d:Option Nat):Bool:=sole tab n 0 all&& !blD E d
def uoN (E:Env) (tab:List Nat) (all:List Oper) (n:Nat) (d:Option Nat):Bool:=EW E tab n 0 all&& !blD E d
def pB (E:Env) (tab:List Nat) (n:Nat) (br:List (Nat×Nat)) (obs:List AObj) (d:Option Nat):List AObj:=bif blD E d then [] else pK (EE tab n br) obs
def born (j base:Nat):List AObj->List (Nat×Nat)->List (Nat×Nat)
 | [],br=>br
 | _::r,br=>(j,base)::born j (base+1) r br
def gA:Nat->List AObj->List AObj
 | 0,l=>l
 | _+1,[]=>[]
 | n+1,_::l=>gA n l
def gM (E:Env) (all:List Oper) (tab:List Nat) (K:List (Nat×AVal)->List AObj->Prop) (Kp:(Nat->AVal)->AVal->List AObj->Prop):Nat->List Oper->List (Nat×Nat)->List (Nat×AVal)->List AObj->Prop
 | _,[],_,fr,obs=>K fr obs
 | n,p::rest,br,fr,obs=>
  match bZ all (evH tab all n fr) p.guard with
  | none=>False
  | some false=>gM E all tab K Kp (n+1) rest br (jN fr p.dst (.tup [])) obs
  | some true=>orD E.P (soN E tab all n p.dst) (uoN E tab all n p.dst) (blD E p.dst) (pB E tab n br obs p.dst) obs (aM obs) (fun v obs'=>wrP rest n p.dst fr v fun fr=>gM E all tab K Kp (n+1) rest (born n (aM obs) (gA (aM obs) obs') br) fr obs') (Kp (aR fr))
     (eop E (cZ E p.dst) (aM obs) (aC (pB E tab n br obs p.dst)) (evH tab all n fr) p.op p.type)
inductive KI where
 | code (c:Code) | inB (id:Nat) | inL (c:Code) | beginR
def C5 (id:Nat):List KI->Option (List KI)
 | []=>none
 | .inB i::r=>bif Av i id then some r else C5 id r
 | _::r=>C5 id r
inductive Goal where
 | pure (r:Res)
 | full (n0:Nat) (r:Res) (obs':List AObj)
 | keep (n0:Nat) (r:Res) (obs':List AObj)
def aF2 (E:Env) (obs:List AObj) (fr:List (Nat×AVal)):ResultVar->Option AVal
 | .tmp t=>some (aR fr t)
 | .cell t ty=>match cU E.T ty,aR fr t with
  | some ti,.ref k off=>match aC obs k with
   | .cells _ cs=>match lB ti.size (jH off cs) with | some l=>mk ti l | none=>none
   | _=>none
  | _,_=>none
def Y7 (E:Env) (obs:List AObj) (fr:List (Nat×AVal)):List ResultVar->Option (List AVal)
 | []=>some []
 | r::rs=>match aF2 E obs fr r,Y7 E obs fr rs with
  | some v,some vs=>some (v::vs)
  | _,_=>none
def Y8 (E:Env) (obs:List AObj) (a:List ResultVar) (fr:List (Nat×AVal)):Option AVal:=
 match Y7 E obs fr a with
 | some [v]=>some v
 | some vs=>some (.tup vs)
 | none=>none
def aIx (n:Nat):Tk->Bool
 | .own k _=>Eg k n
 | _=>true
def DP (f:AVal->Bool):List AVal->Bool
 | []=>true
 | c::r=>f c&&DP f r
def bel (n:Nat):Nat->AVal->Bool
 | 0,_=>false
 | m+1,a=>match a with
  | .slice _ _ t=>aIx n t
  | .agg cs=>DP (bel n m) cs
  | .tup cs=>DP (bel n m) cs
  | .ref k _=>Eg k n
  | .eref k _ _ _ _=>Eg k n
  | .csl k _ _ _=>Eg k n
  | .row k _=>Eg k n
  | .sub k _ _ _ _=>Eg k n
  | .rowc k _ _=>Eg k n
  | .pre k _ _ _ _=>Eg k n
  | .mref k=>Eg k n
  | .func _ b cs=>DP (bel n m) b&&DP (bel n m) cs
  | .iface _ v=>bel n m v
  | _=>true
def EK (n:Nat):List AObj->Bool
 | []=>true
 | .cells _ cs::r=>DP (bel n 5) cs&&EK n r
 | _::r=>EK n r
def aBW (n:Nat):List (Nat×AVal)->Bool
 | []=>true
 | (_,v)::r=>bel n 5 v&&aBW n r
def mW:Nat->List AObj->List AObj
 | 0,_=>[]
 | _+1,[]=>[]
 | n+1,x::r=>x::mW n r
def MH (g:Goal) (a:AVal->Res) (v:AVal) (obs:List AObj):Prop:=
 match g with
 | .pure r=>a (cvtV 0 [] (aC (frzL obs [v])) 5 v)=r
 | .full n0 r obs'=>∃ b ks,(iV ks (frzs b obs)=true/\lF n0 0 ks=true)/\a (cvtV n0 ks (aC (frzs b obs)) 5 v)=r/\fN n0 ks (frzs b obs)=obs'
 | .keep n0 r obs'=>(bel n0 5 v=true/\EK n0 (mW n0 obs)=true)/\a v=r/\mW n0 obs=obs'
def Goal.n0:Goal->Nat
 | .pure _=>0
 | .full n _ _=>n
 | .keep n _ _=>n
def cC (fn:Func):Code:=fn.body.getD .skip
def A2:Nat->Code->List KI->List KI ⊕ Nat
 | n,.seq a b,ks=>match A2 n a (.code b::ks) with | .inl r=>.inl r | .inr n=>A2 n b ks
 | n,.cond _ a b,ks=>match A2 n a ks with | .inl r=>.inl r | .inr n=>A2 n b ks
 | n,.block id b,ks=>A2 n b (.inB id::ks)
 | 0,.loop b,ks=>.inl (.code b:: .inL b::ks)
 | n+1,.loop b,ks=>A2 n b (.inL b::ks)
 | n,_,_=>.inr n
def stk (fn:Func) (n:Nat):List KI:=match A2 n (cC fn) [] with | .inl r=>r | .inr _=>[]
def frA:Nat->List AVal->List (Nat×AVal)
 | _,[]=>[]
 | n,a::r=>(n,a)::frA (n+1) r
def mT:List Nat->List (Nat×AVal)->List (Nat×AVal)
 | [],_=>[]
 | t::r,fr=>(t,aR fr t)::mT r fr
structure RI where
 all:List Oper
 dr:Bool
 tab:List Nat
 ks:List KI
inductive St where
 | code (ks:List KI) (fr:List (Nat×AVal)) (obs:List AObj)
 | head (ks:List KI) (fr:List (Nat×AVal)) (obs:List AObj)
 | mid (R:RI) (n:Nat) (rest:List Oper) (br:List (Nat×Nat)) (fr:List (Nat×AVal)) (obs:List AObj)
 | pend (R:RI) (n:Nat) (d:Option Nat) (rest:List Oper) (br:List (Nat×Nat)) (fr:List (Nat×AVal)) (obs:List AObj) (r:OR)
 | got (R:RI) (n:Nat) (d:Option Nat) (rest:List Oper) (br:List (Nat×Nat)) (fr:List (Nat×AVal)) (len:Nat) (obs:List AObj) (v:AVal)
 | leave (p:Option AVal) (fr:List (Nat×AVal)) (obs:List AObj)
def aBs (g:Goal) (a:AVal->Res) (v:AVal) (obs:List AObj):Prop:=
 match g with
 | .pure r=>KD 5 (cvtV 0 [] (aC (frzL obs [v])) 5 v) fun y=>a y=r
 | .full n0 r obs'=>∃ b ks,(iV ks (frzs b obs)=true/\lF n0 0 ks=true)/\KD 5 (cvtV n0 ks (aC (frzs b obs)) 5 v) fun y=>ODL (fN n0 ks (frzs b obs)) fun os=>a y=r/\os=obs'
 | .keep n0 r obs'=>(bel n0 5 v=true/\EK n0 (mW n0 obs)=true)/\ODL (mW n0 obs) fun os=>a v=r/\os=obs'
theorem IX (g:Goal) (a:AVal->Res) (v:AVal) (obs:List AObj):aBs g a v obs=MH g a v obs:=by
 cases g<;>simp only [aBs,MH,jI,oZ]
def aGg (E:Env) (g:Goal) (J:St->Prop) (fr:List (Nat×AVal)) (v:AVal) (obs:List AObj):Prop:=match E.rd with
 | some _=>False
 | none=>match E.df with
  | []=>MH g .pan v obs
  | _::_=>J (.leave (some v) fr obs)
def aC2 (E:Env) (fn:Func) (g:Goal) (J:St->Prop) (b:Bool) (fr:List (Nat×AVal)) (obs:List AObj):Prop:=match E.rd with
 | some _=>aBs g .ret (.bool b) obs
 | none=>match E.df with
  | []=>(match Y8 E obs fn.results.toList fr with | some v=>KD 5 v fun v=>aBs g .ret v obs | none=>False)
  | _::_=>J (.leave none fr obs)
def aHX:List Oper->Bool
 | [p]=>(match p.op with | .defer _=>true | _=>false)
 | _=>false
def bJ (E:Env) (fn:Func) (g:Goal) (J:St->Prop):Nat->St->Prop
 | 0,s=>J s
 | n+1,.head ks fr obs=>bJ E fn g J n (.code ks fr obs)
 | _+1,.leave p fr obs=>J (.leave p fr obs)
 | _+1,.code [] fr obs=>aC2 E fn g J true fr obs
 | n+1,.code (k::ks) fr obs=>(match k with
  | .inB _=>bJ E fn g J n (.code ks fr obs)
  | .inL b=>J (.head (.code b:: .inL b::ks) fr obs)
  | .beginR=>J (.code (.beginR::ks) fr obs)
  | .code q=>match q with
   | .skip=>bJ E fn g J n (.code ks fr obs)
   | .seq a b=>bJ E fn g J n (.code (.code a:: .code b::ks) fr obs)
   | .block id b=>bJ E fn g J n (.code (.code b:: .inB id::ks) fr obs)
   | .loop b=>J (.head (.code b:: .inL b::ks) fr obs)
   | .exit id=>(match C5 id ks with
    | some ks=>bJ E fn g J n (.code ks fr obs)
    | none=>False)
   | .ret=>aC2 E fn g J false fr obs
   | .rangeFunc x t as u=>J (.code (.code (.rangeFunc x t as u)::ks) fr obs)
   | .cond x a b=>(match ev fr x with
    | .bool p=>(p=true->J (.code (.code a::ks) fr obs))/\(p=false->J (.code (.code b::ks) fr obs))
    | _=>False)
   | .region id ops dr=>(match aHX ops.toList with
    | true=>J (.code (.code (.region id ops dr)::ks) fr obs)
    | false=>(match dr with
     | false=>bJ E fn g J n (.mid ⟨ops.toList,false,[],ks⟩ 0 ops.toList [] fr obs)
     | true=>TT [] ops.toList fun tab=>bJ E fn g J n (.mid ⟨ops.toList,true,tab,ks⟩ 0 ops.toList [] fr obs)))
   | _=>False)
 | n+1,.mid R _ [] _ fr obs=>bJ E fn g J n (.code R.ks fr obs)
 | n+1,.mid R i (p::rest) br fr obs=>(match R.dr with
  | false=>(match bZ R.all (ev fr) p.guard with
   | none=>False
   | some false=>(match p.dst with | none=>bJ E fn g J n (.mid R (i+1) rest br fr obs) | some d=>BG fr d (.tup []) fun fr=>bJ E fn g J n (.mid R (i+1) rest br fr obs))
   | some true=>bJ E fn g J n (.pend R i p.dst rest br fr obs (eop E (cZ E p.dst) (aM obs) (aC obs) (ev fr) p.op p.type)))
  | true=>(match bZ R.all (evH R.tab R.all i fr) p.guard with
   | none=>False
   | some false=>(match p.dst with | none=>bJ E fn g J n (.mid R (i+1) rest br fr obs) | some d=>BG fr d (.tup []) fun fr=>bJ E fn g J n (.mid R (i+1) rest br fr obs))
   | some true=>ODL (pB E R.tab i br obs p.dst) fun e=>bJ E fn g J n (.pend R i p.dst rest br fr obs (eop E (cZ E p.dst) (aM obs) (aC e) (evH R.tab R.all i fr) p.op p.type))))
 | n+1,.pend R i d rest br fr obs r=>(match r with
  | .no=>False
  | .val v=>KD 4 v fun v=>bJ E fn g J n (.got R i d rest br fr (aM obs) obs v)
  | .mkf f h cs=>KDL (KD 3) h fun h=>KDL (KD 3) cs fun cs=>bJ E fn g J n (.got R i d rest br fr (aM obs) obs (.func f h cs))
  | .need p r=>p/\J (.pend R i d rest br fr obs r)
  | .alt p v w=>(p/\J (.got R i d rest br fr (aM obs) obs v))\/J (.got R i d rest br fr (aM obs) obs w)
  | .idx m f=>∃ x:Nat,m=(x:Int)/\J (.pend R i d rest br fr obs (f x))
  | .elem xs m f=>∃ x,xs[m]? =some x/\J (.pend R i d rest br fr obs (f x))
  | .byte l m=>∃ c,l[m]? =some c/\J (.got R i d rest br fr (aM obs) obs (.int .u8 (c.toNat:Int)))
  | .text xs=>∃ l:List UInt8,xs=l.map ub/\(l.length:Int)<=9223372036854775807/\J (.got R i d rest br fr (aM obs) obs (.str l))
  | .find es key f=>∃ o,aZ es key=o/\J (.pend R i d rest br fr obs (f o))
  | .born x v=>(match (R.dr&&blD E d) with
   | true=>False
   | false=>OD x fun x=>ODL (bH obs (aM obs) x) fun obs'=>KD 4 v fun v=>bJ E fn g J n (.got R i d rest br fr (aM obs) obs' v))
  | .upd k x v=>(match (!R.dr||(soN E R.tab R.all i d||(uoN E R.tab R.all i d&&nd (aC (pB E R.tab i br obs d) k)))) with
   | true=>OD x fun x=>ODL (bH obs k x) fun obs'=>KD 4 v fun v=>bJ E fn g J n (.got R i d rest br fr (aM obs) obs' v)
   | false=>False)
  | .nilq xs j=>(match (!R.dr||soN E R.tab R.all i d) with
   | true=>∀ b:Bool,(b=true->xs=[])->J (.got R i d rest br fr (aM obs) obs (.bool (if j then !b else b)))
   | false=>False)
  | .call f args=>KDL (KD 5) args fun args=>(match R.dr with
   | false=>CallG E.P f args obs (fun v obs'=>J (.got R i d rest br fr (aM obs) obs' v)) (aGg E g J fr)
   | true=>match blD E d with
    | true=>False
    | false=>ODL (pB E R.tab i br obs d) fun e=>CallD E.P f args (soN E R.tab R.all i d) e (aM obs) obs (fun v obs'=>J (.got R i d rest br fr (aM obs) obs' v)) (aGg E g J fr))
  | .pan v=>(match (!R.dr||soN E R.tab R.all i d) with
   | true=>KD 5 v fun v=>(match E.rd with | some _=>False | none=>match E.df with | []=>aBs g .pan v obs | _::_=>J (.leave (some v) fr obs))
   | false=>False))
 | n+1,.got R i d rest br fr len obs v=>KD 4 v fun v=>ODL obs fun obs=>(match d with
  | none=>bJ E fn g J n (.mid R (i+1) rest (bif R.dr then born i len (gA len obs) br else br) fr obs)
  | some d=>bif uY i rest then (match v with
    | .bool b=>(b=true->BG fr d (.bool true) fun fr=>J (.mid R (i+1) rest (bif R.dr then born i len (gA len obs) br else br) fr obs))/\
      (b=false->BG fr d (.bool false) fun fr=>J (.mid R (i+1) rest (bif R.dr then born i len (gA len obs) br else br) fr obs))
    | _=>False)
   else BG fr d v fun fr=>bJ E fn g J n (.mid R (i+1) rest (bif R.dr then born i len (gA len obs) br else br) fr obs))
theorem DN {i n:Nat} (h:¬ i=n):Av i n=false:=by
 cases a:Av i n with
 | false=>rfl
 | true=>simp_all
theorem aB {i n:Nat} (h:Av i n=true):i=n:=Nat.eq_of_beq_eq_true h
theorem aQ {a b:Bool} (h:(a&&b)=true):a=true/\b=true:=by grind
theorem bD (l:List AObj):aM l=l.length:=by
 induction l with
 | nil=>rfl
 | cons x r a=>simp [aM,a]
theorem mY {l:List AObj}:∀ {n:Nat},n<l.length->l[n]? =some (aC l n):=by
 induction l with
 | nil=>simp
 | cons x r a=>intro n h;cases n with
  | zero=>rfl
  | succ n=>simpa [aC] using a (n:=n) (by grind)
theorem bL {l:List AObj}:∀ {n:Nat} {x:AObj},aC l n=x->x≠ .dead->l[n]? =some x:=by
 induction l with
 | nil=>intro n x h a;exact absurd h.symm (by simpa [aC] using a)
 | cons y r b=>intro n x h a;cases n with
  | zero=>simpa [aC] using h
  | succ n=>simpa using b (n:=n) h a
theorem eV {l:List AObj}:∀ {n:Nat} {x:AObj},l[n]? =some x->aC l n=x:=by
 induction l with
 | nil=>simp
 | cons y r a=>intro n x h;cases n with
  | zero=>simpa [aC] using h
  | succ n=>exact a (n:=n) (by simp_all)
theorem fP {l:List AObj}:∀ {n:Nat} (x:AObj),n<l.length->bH l n x=l.set n x:=by
 induction l with
 | nil=>simp
 | cons y r a=>intro n x h;cases n with
  | zero=>rfl
  | succ n=>simp only [bH,List.set_cons_succ];grind
theorem LB (l:List AObj) (x:AObj):bH l l.length x=l++[x]:=by
 induction l with
 | nil=>rfl
 | cons y r a=>simp [bH,a]
theorem lC (n:Nat):∀ (l:List AVal),jH n l=l.drop n:=by
 induction n with
 | zero=>intro l;rfl
 | succ n a=>intro l;cases l with
  | nil=>rfl
  | cons c r=>simpa [jH] using a r
theorem iF {n:Nat}:∀ {l r:List AVal},lB n l=some r->r.length=n/\∀ (i:Nat) c,r[i]? =some c->l[i]? =some c:=by
 induction n with
 | zero=>intro l r h;cases h;simp
 | succ n b=>
  intro l r h
  cases l with
  | nil=>cases h
  | cons c l=>
   simp only [lB] at h
   split at h
   .rename_i g e
    cases h
    obtain ⟨h1,f⟩:=b e
    refine ⟨by simp [h1],fun i d a=>?_⟩
    cases i with
    | zero=>simpa using a
    | succ i=>simpa using f i d (by simpa using a)
   .cases h
theorem WO:∀ {new l r:List AVal},QE new l=some r->new.length<=l.length/\r.length=l.length/\∀ (i:Nat),r[i]? =if i<new.length then new[i]? else l[i]?:=by
 intro new
 induction new with
 | nil=>intro l r h;cases h;simp
 | cons c new a=>
  intro l r h
  cases l with
  | nil=>cases h
  | cons d l=>
   simp only [QE] at h
   split at h
   .rename_i x e
    cases h
    obtain ⟨h1,b,h3⟩:=a e
    refine ⟨by simp;omega,by simp [b],fun i=>?_⟩
    cases i with
    | zero=>simp
    | succ i=>simpa using h3 i
   .cases h
theorem iY {off:Nat}:∀ {new l r:List AVal},mG off new l=some r->off+new.length<=l.length/\r.length=l.length/\∀ (i:Nat),r[i]? =if off<=i/\i<off+new.length then new[i-off]? else l[i]?:=by
 induction off with
 | zero=>
  intro new l r h
  obtain ⟨h1,a,h3⟩:=WO (show QE new l=some r by cases l<;>exact h)
  grind
 | succ n d=>
  intro new l r h
  cases l with
  | nil=>cases h
  | cons c l=>
   simp only [mG] at h
   split at h
   .rename_i x e
    cases h
    obtain ⟨h1,a,h3⟩:=d e
    refine ⟨by simp;omega,by simp [a],fun i=>?_⟩
    cases i with
    | zero=>simp
    | succ i=>
     simp only [Fe,h3 i]
     by_cases b:n<=i/\i<n+new.length
     .rw [if_pos b,if_pos ⟨by omega,by omega⟩]
      simp
     .rw [if_neg b,if_neg o_]
   .cases h
theorem vR (l:List AVal):MQ l=l.length:=by
 induction l with
 | nil=>rfl
 | cons c r a=>simp [MQ,a]
theorem mA {α:Type} (l:List α):∀ (n:Nat),nth l n=l[n]?:=by
 induction l with
 | nil=>intro n;rfl
 | cons x r a=>intro n;cases n with
  | zero=>rfl
  | succ n=>simpa [nth] using a n
theorem gJ {α:Type} {l:List α} {n:Nat} {x:α} (h:nth l n=some x):l[n]? =some x:=by rw [<-mA];exact h
theorem JI (a b:List AVal):WY a b=a++b:=by
 induction a with
 | nil=>rfl
 | cons c r d=>simp [WY,d]
theorem uU (f:AVal->AVal) (l:List AVal):dH f l=l.map f:=by
 induction l with
 | nil=>rfl
 | cons c r a=>simp [dH,a]
theorem kL {n:Nat}:∀ {l:List Nat},sB n l=true↔n∈l
 | []=>by simp [sB]
 | x::r=>by
  simp only [sB,Fy,kL (l:=r),Aj]
  constructor
  .rintro (h | h)
   .simp_all
   grind
  .rintro (h | h)
   .simp_all
   grind
theorem rS (fr:List (Nat×AVal)) (n m:Nat) (x:AVal):aR (gU fr n x) m=if m=n then x else aR fr m:=by
 induction fr with
 | nil=>
  simp only [gU,aR]
  by_cases h:m=n
  .simp_all
  .rw [DN (fun e=>h e.symm),if_neg h];rfl
 | cons p r a=>
  obtain ⟨i,v⟩:=p
  simp only [gU]
  cases b:Av i n with
  | true=>
   have:=aB b
   subst this
   simp only [cond_true,aR]
   by_cases h:m=i
   .grind
   .rw [DN (fun e=>h e.symm),if_neg h];rfl
  | false=>
   simp only [cond_false,aR,a]
   grind
theorem aW (b o j:Nat):(⟨b,o,none⟩:Addr).add j=⟨b,o+j,none⟩:=by
 unfold Addr.add;simp
theorem dZ {α:Type} {b:Bool} {x:Option α} {r:α} (h:(bif b then x else none)=some r):b=true/\x=some r:=by
 grind
section
variable {M:Imm} {ob:Hs} {obs:List AObj} {w:World}
theorem Rep.int_inv {v:Value} {k:IntKind} {n:Int} (h:Rep M ob v (.int k n)):v= .int k n/\inR k n:=by cases h with | int _ _ h=>grind
theorem Rep.bool_inv {v:Value} {b:Bool} (h:Rep M ob v (.bool b)):v= .bool b:=by cases h;rfl
theorem Rep.str_inv {v:Value} {l:List UInt8} (h:Rep M ob v (.str l)):v= .string ⟨l.toArray⟩/\(l.length:Int)<=9223372036854775807:=by cases h with | str _ h=>grind
theorem Rep.agg_inv {v:Value} {as:List AVal} (h:Rep M ob v (.agg as)):∃ vs:List Value,v= .agg vs.toArray/\vs.length=as.length/\∀ (i:Nat) u a,vs[i]? =some u->as[i]? =some a->Rep M ob u a:=by
 cases h with | agg vs as hl h=>grind
theorem Rep.tup_inv {v:Value} {as:List AVal} (h:Rep M ob v (.tup as)):∃ vs:List Value,v= .tuple vs.toArray/\vs.length=as.length/\∀ (i:Nat) u a,vs[i]? =some u->as[i]? =some a->Rep M ob u a:=by
 cases h with | tup vs as hl h=>grind
theorem Rep.ptr_inv {v:Value} {cs:List AVal} (h:Rep M ob v (.ptr cs)):∃ b o,v= .pointer (some ⟨b,o,none⟩)/\∀ (j:Nat) c,cs[j]? =some c->M b (o+j) c:=by
 cases h with | ptr b o cs h=>grind
theorem Rep.ref_inv {v:Value} {k off:Nat} (h:Rep M ob v (.ref k off)):∃ b,v= .pointer (some ⟨b,off,none⟩)/\at' ob k 0=some (.pointer (some ⟨b,0,none⟩)):=by
 cases h with | ref k off b h=>grind
theorem Rep.iface_inv {v:Value} {t:TypeId} {a:AVal} (h:Rep M ob v (.iface t a)):∃ u,v= .iface t u/\Rep M ob u a:=by
 cases h with | iface _ v _ h=>grind
theorem Rep.row_inv {v:Value} {k g:Nat} (h:Rep M ob v (.row k g)):∃ a n c,v= .slice a n c/\at' ob k g=some (.slice a n c):=by
 cases h with | row _ _ a n c h=>grind
theorem Rep.untok {v:Value} {sz:Nat} {xs:List AVal} {t:Tk} (h:Rep M ob v (.slice sz xs t)):Rep M ob v (.slice sz xs .no)/\sG ob v t:=by
 cases h with
 | slnil sz t c=>exact ⟨.slnil sz .no trivial,c⟩
 | slemp sz t a cap c=>exact ⟨.slemp sz .no a cap trivial,c⟩
 | sl sz b o n cap xs t d e hm hz h c=>exact ⟨.sl sz b o n cap xs .no d e hm hz h trivial,c⟩
theorem Rep.tok {v:Value} {sz:Nat} {xs:List AVal} {t:Tk} (h:Rep M ob v (.slice sz xs .no)) (c:sG ob v t):Rep M ob v (.slice sz xs t):=by
 cases h with
 | slnil sz _=>exact .slnil sz t c
 | slemp sz _ a cap _=>exact .slemp sz t a cap c
 | sl sz b o n cap xs _ d e hm hz h _=>exact .sl sz b o n cap xs t d e hm hz h c
theorem Rep.slice_pure {v:Value} {sz:Nat} {xs:List AVal} (h:Rep M ob v (.slice sz xs .no)):Rep M [] v (.slice sz xs .no):=by
 cases h with
 | slnil sz _=>exact .slnil sz .no trivial
 | slemp sz _ a cap _=>exact .slemp sz .no a cap trivial
 | sl sz b o n cap xs _ c d hm hz h _=>exact .sl sz b o n cap xs .no c d hm hz h trivial
theorem Rep.slice_inv {v:Value} {sz:Nat} {xs:List AVal} {t:Tk} (h:Rep M ob v (.slice sz xs t)):∃ a c,v= .slice a xs.length c/\(a=none->xs=[]/\c=0)/\(xs≠[]->xs.length<=c)/\(xs.length:Int)<=9223372036854775807:=by
 cases h with
 | slnil sz t d=>grind
 | slemp sz t a cap d=>grind
 | sl sz b o n cap xs t e f hm hz h d=>subst e;exact ⟨_,cap,rfl,fun h=>(by cases h),fun _=>f,hm⟩
theorem Rep.sl_inv {v:Value} {sz:Nat} {xs:List AVal} {t:Tk} (h:Rep M ob v (.slice sz xs t)):(v= .slice none 0 0/\xs=[])\/(∃ a cap,v= .slice (some a) 0 cap/\xs=[])\/
  ∃ b o cap,v= .slice (some ⟨b,o,none⟩) xs.length cap/\xs.length<=cap/\(xs.length:Int)<=9223372036854775807/\(∀ x∈xs,x.cells.length=sz)/\∀ (i j:Nat) x c,xs[i]? =some x->x.cells[j]? =some c->M b (o+i*sz+j) c:=by
 cases h with
 | slnil sz t d=>simp
 | slemp sz t a cap d=>exact .inr (.inl ⟨a,cap,rfl,rfl⟩)
 | sl sz b o n cap xs t e f hm hz h d=>subst e;exact .inr (.inr ⟨b,o,cap,rfl,f,hm,hz,h⟩)
theorem Rep.cells {v:Value} {a:AVal} (h:Rep M ob v a) (m:a≠ .undef):v.cells.toList.length=a.cells.length/\∀ (i:Nat) u c,v.cells.toList[i]? =some u->a.cells[i]? =some c->Rep M ob u c:=by
 have d:∀ {v:Value} {a:AVal},Rep M ob v a->v.cells= #[v]->a.cells=[a]->v.cells.toList.length=a.cells.length/\∀ (i:Nat) u c,v.cells.toList[i]? =some u->a.cells[i]? =some c->Rep M ob u c:=by
  intro v a h r p
  rw [r,p]
  refine ⟨rfl,fun i u c m e=>?_⟩
  cases i with
  | zero=>grind
  | succ i=>simp at m
 cases h with
 | undef v=>exact absurd rfl m
 | agg vs as hl h=>exact ⟨by simpa [Value.cells,AVal.cells] using hl,fun i u c m e=>h i u c (by simpa [Value.cells] using m) (by simpa [AVal.cells] using e)⟩
 | row k g a n c h=>exact d (.row k g a n c h) rfl rfl
 | bool b=>exact d (.bool b) rfl rfl
 | int k n q=>exact d (.int k n q) rfl rfl
 | str l hl=>exact d (.str l hl) rfl rfl
 | tup vs as hl h=>exact d (.tup vs as hl h) rfl rfl
 | ptr b o cs h=>exact d (.ptr b o cs h) rfl rfl
 | ref k off b h=>exact d (.ref k off b h) rfl rfl
 | eref k g i sz off b n c h=>exact d (.eref k g i sz off b n c h) rfl rfl
 | csl k off len sz b h hm=>exact d (.csl k off len sz b h hm) rfl rfl
 | sub k g lo len sz b n c h hl f e hm=>exact d (.sub k g lo len sz b n c h hl f e hm) rfl rfl
 | sub0 k g lo sz a w n c h hl e=>exact d (.sub0 k g lo sz a w n c h hl e) rfl rfl
 | rowc k g c a n h hm=>exact d (.rowc k g c a n h hm) rfl rfl
 | pre k g n c sz b len h e f hl hm=>exact d (.pre k g n c sz b len h e f hl hm) rfl rfl
 | mref k b h=>exact d (.mref k b h) rfl rfl
 | nilptr=>exact d .nilptr rfl rfl
 | nilslice=>exact d .nilslice rfl rfl
 | nilmap=>exact d .nilmap rfl rfl
 | nilfunc=>exact d .nilfunc rfl rfl
 | nilif=>exact d .nilif rfl rfl
 | hsl a n c=>exact d (.hsl a n c) rfl rfl
 | slnil sz t j=>exact d (.slnil sz t j) rfl rfl
 | slemp sz t a cap j=>exact d (.slemp sz t a cap j) rfl rfl
 | sl sz b o n cap xs t f e hm hz h j=>exact d (.sl sz b o n cap xs t f e hm hz h j) rfl rfl
 | func fn x cs s z A e h1 y=>exact d (.func fn x cs s z A e h1 y) rfl rfl
 | iface t v a h=>exact d (.iface t v a h) rfl rfl
theorem Rep.one {v:Value} {a:AVal} (h:Rep M ob v a) (h1:one a=true):v.oneCell'=true:=by
 cases h<;>first | rfl | (simp [AW.one] at h1)
theorem kK {l:List AVal} (h:oE l=true):∀ (i:Nat) c,l[i]? =some c->one c=true:=by
 induction l with
 | nil=>simp
 | cons d r a=>
  simp only [oE,Af] at h
  intro i c b
  cases i with
  | zero=>grind
  | succ i=>exact a h.2 i c (by simpa using b)
theorem mX {c:AVal} (h:AW.one c=true):c.cells=[c]:=by cases c<;>first | rfl | cases h
theorem Rep.cells_one {v:Value} {a:AVal} (h:Rep M ob v a) (h1:oE a.cells=true):v.cells.toList.length=a.cells.length/\(∀ u∈v.cells.toList,u.oneCell'=true)/\∀ (i:Nat) u c,v.cells.toList[i]? =some u->a.cells[i]? =some c->Rep M ob u c:=by
 have f:a≠ .undef:=fun e=>by subst e;simp [AVal.cells,oE,AW.one] at h1
 obtain ⟨g,h3⟩:=h.cells f
 refine ⟨g,fun u hm=>?_,h3⟩
 obtain ⟨i,d⟩:=Ch hm
 have b:i<a.cells.length:=by grind
 exact (h3 i u _ d (Ab b)).one (kK h1 i _ (Ab b))
end
theorem cK {ob:Hs} {obs:List AObj} {k:Nat} {x:AObj} {hs:List Value} (h1:obs[k]? =some x) (d:ob[k]? =some hs) {b:Nat}:aK ob obs k b↔x.owns=true/\b∈blk hs:=by
 constructor
 .rintro ⟨c,hs',f,g,e3,e⟩
  grind
 .rintro ⟨h3,a⟩
  exact ⟨x,hs,h1,h3,d,a⟩
theorem Mem.turn {M M':Imm} {ob:Hs} {obs:List AObj} {w w':World} (h:Mem M ob obs w) {k:Nat} {x x':AObj} {hs hs':List Value} (Q:obs[k]? =some x) (J:ob[k]? =some hs) (hp:hs<+:hs') (hd:x= .dead->hs=[])
  (X:∀ b o y,M b o y->M' b o y) (z:∀ b o y,M' b o y->M b o y\/(x.owns=true/\b∈blk hs)\/w.heap.size<=b)
  (C:∀ b o y,M' b o y->∃ v,w'.cell? ⟨b,o,none⟩=some v/\v.oneCell'=true/\Rep M' [] v y)
  (heap:∀ b,b<w.heap.size->¬ (x.owns=true/\b∈blk hs)->w'.heap[b]? =w.heap[b]?)
  (P:w'.os=w.os) (A:w'.tape=w.tape) (D:w'.output=w.output) (s:w.heap.size<=w'.heap.size)
  (H:dR ob (ob.set k hs')->gR M' (ob.set k hs') w' hs' x') (hb:x'.owns=true->∀ b,b∈blk hs'->((x.owns=true/\b∈blk hs)\/w.heap.size<=b)/\b<w'.heap.size) (T:x'≠ .dead:=by intro h;cases h):
  Mem M' (ob.set k hs') (obs.set k x') w'/\Ext M ob obs w M' (ob.set k hs') (obs.set k x') w'/\cD ob obs (ob.set k hs') (obs.set k x'):=by
 have U:k<obs.length:=(Ac.1 Q).1
 have F:k<ob.length:=(Ac.1 J).1
 have u:dR ob (ob.set k hs'):=fun i l hl=>by
  by_cases f:i=k
  .subst f
   rw [J] at hl
   cases hl
   exact ⟨hs',Ba F,hp⟩
  .exact ⟨l,by rw [Bh (fun e=>f e.symm)];exact hl,Dd _⟩
 have n:∀ {i:Nat},i≠k->(obs.set k x')[i]? =obs[i]?/\(ob.set k hs')[i]? =ob[i]?:=fun {i} f=>
  ⟨Bh (fun e=>f e.symm),Bh (fun e=>f e.symm)⟩
 have p:(obs.set k x')[k]? =some x':=Ba U
 have m:(ob.set k hs')[k]? =some hs':=Ba F
 have d:∀ {i b:Nat},aK (ob.set k hs') (obs.set k x') i b->(i≠k/\aK ob obs i b)\/(i=k/\((x.owns=true/\b∈blk hs)\/w.heap.size<=b)/\b<w'.heap.size):=fun {i b} a=>by
  by_cases f:i=k
  .subst f
   have:=(cK p m).1 a
   exact .inr ⟨rfl,hb this.1 b this.2⟩
  .obtain ⟨c,l,K,L,e3,e4⟩:=a
   rw [(n f).1] at K
   rw [(n f).2] at e3
   exact .inl ⟨f,c,l,K,L,e3,e4⟩
 have r:∀ {b:Nat},x.owns=true/\b∈blk hs->aK ob obs k b:=fun a=>(cK Q J).2 a
 refine ⟨⟨C,by simp [h.len],fun i c G=>?_,fun i b a=>?_,fun i j b a B=>?_⟩,⟨X,fun b o y O=>?_,u,P,A,D,s,fun b B hn=>heap b B fun a=>hn k (r a),fun i b a=>?_⟩,fun i l h1 t=>⟨fun h3=>?_,fun h3 Y=>?_⟩⟩
 .by_cases f:i=k
  .subst f
   rw [p] at G
   cases G
   exact ⟨hs',m,H u⟩
  .rw [(n f).1] at G
   obtain ⟨l,hl,Z⟩:=h.obj i c G
   have I:∀ b,c.owns=true->b∈blk l->¬ (x.owns=true/\b∈blk hs)/\b<w.heap.size:=fun b h1 t=>by
    have a:aK ob obs i b:=(cK G hl).2 ⟨h1,t⟩
    exact ⟨fun hk=>f (h.inj i k b a (r hk)),h.lt i b a⟩
   refine ⟨l,by rw [(n f).2];exact hl,Z.mono X u (fun b h1 t o S y O=>?_) (fun b c' h1 t N=>?_)⟩
   .obtain ⟨V,W⟩:=I b h1 t
    rcases z b o y O with q | q | q
    .exact S y q
    .exact V q
    .omega
   .obtain ⟨V,W⟩:=I b h1 t
    rw [heap b W V]
    exact N
 .rcases d a with ⟨_,a⟩ | ⟨_,_,R⟩
  .exact Dz (h.lt i b a) s
  .exact R
 .rcases d a with ⟨_,a⟩ | ⟨K,a,_⟩<;>rcases d B with ⟨_,g⟩ | ⟨L,g,_⟩
  .exact h.inj i j b a g
  .rcases g with g | g
   .rw [L];exact h.inj i k b a (r g)
   .have:=h.lt i b a;omega
  .rcases a with a | a
   .rw [K];exact h.inj k j b (r a) g
   .have:=h.lt j b g;omega
  omega
 .rcases z b o y O with q | q | q
  .exact .inl q
  .exact .inr (.inr ⟨k,r q⟩)
  omega
 .rcases d a with ⟨_,a⟩ | ⟨_,a | a,_⟩
  .exact .inl ⟨i,a⟩
  .exact .inl ⟨k,r a⟩
  omega
 .have f:i≠k:=fun e=>by
   subst e
   rw [Q] at h1
   rw [J] at t
   cases h1
   simp_all
  rw [(n f).1,(n f).2]
  exact ⟨h1,t⟩
 .by_cases f:i=k
  .subst f
   rw [p] at Y
   cases Y
   rw [m]
   have:=H u
   exact absurd rfl T
  .rw [(n f).2]
   exact h3▸t
theorem Mem.more {M M':Imm} {ob:Hs} {obs:List AObj} {w w':World} (h:Mem M ob obs w) (t:∀ b o y,M b o y->M' b o y) (d:∀ b o y,M' b o y->M b o y\/w.heap.size<=b)
  (f:∀ b o y,M' b o y->∃ v,w'.cell? ⟨b,o,none⟩=some v/\v.oneCell'=true/\Rep M' [] v y) (heap:∀ b,b<w.heap.size->w'.heap[b]? =w.heap[b]?)
  (m:w'.os=w.os) (e:w'.tape=w.tape) (g:w'.output=w.output) (a:w.heap.size<=w'.heap.size):Mem M' ob obs w'/\Ext M ob obs w M' ob obs w':=by
 refine ⟨⟨f,h.len,fun i c r=>?_,fun i b n=>Dz (h.lt i b n) a,h.inj⟩,⟨t,fun b o y k=>?_,dR.refl _,m,e,g,a,fun b x _=>heap b x,fun i b n=>.inl ⟨i,n⟩⟩⟩
 .obtain ⟨l,hl,u⟩:=h.obj i c r
  refine ⟨l,hl,u.mono t (dR.refl _) (fun b h1 s o p y k=>?_) (fun b z h1 s j=>?_)⟩
  .have:=h.lt i b ((cK r hl).2 ⟨h1,s⟩)
   rcases d b o y k with q | q
   .exact p y q
   .omega
  .rw [heap b (h.lt i b ((cK r hl).2 ⟨h1,s⟩))]
   exact j
 .rcases d b o y k with q | q
  .exact .inl q
  omega
theorem Mem.extend {M:Imm} {ob:Hs} {obs:List AObj} {w:World} (h:Mem M ob obs w) (n:Nat):
  Mem M (ob++Ah n []) (obs++Ah n .dead) w/\Ext M ob obs w M (ob++Ah n []) (obs++Ah n .dead) w/\cD ob obs (ob++Ah n []) (obs++Ah n .dead):=by
 have part:∀ {i:Nat} {c:AObj},(obs++Ah n .dead)[i]? =some c->(i<obs.length/\obs[i]? =some c)\/(obs.length<=i/\c= .dead/\i-obs.length<n):=fun {i c} f=>by
  by_cases d:i<obs.length
  .rw [Ag d] at f;grind
  .rw [Ar o_,Ec] at f
   grind
 have left:∀ {i:Nat},i<obs.length->(ob++Ah n ([]:List Value))[i]? =ob[i]?:=fun {i} d=>Ag (by rw [h.len];exact d)
 have k:dR ob (ob++Ah n []):=fun i l hl=>⟨l,by rw [Ag (Ac.1 hl).1];exact hl,Dd _⟩
 have a:∀ {i b:Nat},aK (ob++Ah n []) (obs++Ah n .dead) i b->aK ob obs i b:=fun {i b} ⟨c,l,m,e2,e3,e4⟩=>by
  rcases part m with ⟨d,m⟩ | ⟨_,rfl,_⟩
  .rw [left d] at e3;exact ⟨c,l,m,e2,e3,e4⟩
  .cases e2
 refine ⟨⟨h.imm,by simp [h.len],fun i c f=>?_,fun i b g=>h.lt i b (a g),fun i j b g r=>h.inj i j b (a g) (a r)⟩,⟨fun _ _ _ h=>h,fun _ _ _ h=>.inl h,k,rfl,rfl,rfl,Bi _,fun _ _ _=>rfl,fun i b g=>.inl ⟨i,a g⟩⟩,fun i l h1 p=>?_⟩
 .rcases part f with ⟨d,f⟩ | ⟨d,rfl,o⟩
  .obtain ⟨l,hl,q⟩:=h.obj i c f
   exact ⟨l,by rw [left d];exact hl,q.mono (fun _ _ _ h=>h) k (fun _ _ _ _ h=>h) (fun _ _ _ _ h=>h)⟩
  .refine ⟨[],?_,trivial⟩
   rw [Ar (by rw [h.len];exact d),Ec,if_pos (by rw [h.len];exact o)]
 .have d:=(Ac.1 h1).1
  exact ⟨fun _=>⟨by rw [Ag d];exact h1,by rw [left d];exact p⟩,fun e _=>by rw [left d];exact e▸p⟩
theorem GP {sz:Nat} {xs:List AVal} {i j:Nat} {x c:AVal} (e:xs[i]? =some x) (d:x.cells[j]? =some c) (hz:x.cells.length=sz):cellAt sz xs (i*sz+j)=some c:=by
 have a:j<sz:=by grind
 have h1:(i*sz+j) / sz=i:=by
  rw [Fg,Js o_,Ja a,Dy]
 have b:(i*sz+j) % sz=j:=by rw [Fg,Nat.mul_add_mod,Nat.mod_eq_of_lt a]
 simp [cellAt,h1,b,e,d]
theorem fB {sz:Nat} {xs:List AVal} {o:Nat} {c:AVal} (h:cellAt sz xs o=some c):∃ x,xs[o / sz]? =some x/\x.cells[o % sz]? =some c:=by
 unfold cellAt at h
 cases a:xs[o / sz]? with
 | none=>grind
 | some x=>exact ⟨x,rfl,by grind⟩
theorem eR {sz:Nat} {xs:List AVal} {q:Nat} {c:AVal} (hs:0<sz) (h:cellAt sz xs q=some c):q<xs.length*sz:=by
 obtain ⟨x,a,_⟩:=fB h
 exact (Ea hs).1 (Ac.1 a).1
theorem xM {sz:Nat} {xs:List AVal} {q:Nat} (hs:0<sz) (hz:∀ x∈xs,x.cells.length=sz) (h:q<xs.length*sz):∃ c,cellAt sz xs q=some c:=by
 have a:q / sz<xs.length:=(Ea hs).2 h
 have d:xs[q / sz]? =some xs[q / sz]:=Ab a
 have b:q % sz<(xs[q / sz]).cells.length:=by rw [hz _ (Bg a)];exact Gp _ hs
 exact ⟨_,by unfold cellAt;rw [d];exact Ab b⟩
theorem cH {sz:Nat} {xs ys:List AVal} {o:Nat} (hs:0<sz) (h:o<xs.length*sz):cellAt sz (xs++ys) o=cellAt sz xs o:=by
 have a:o / sz<xs.length:=(Ea hs).2 h
 simp [cellAt,Ag a]
theorem bY {sz:Nat} {xs ys:List AVal} {o:Nat} (hs:0<sz) (h:xs.length*sz<=o):cellAt sz (xs++ys) o=cellAt sz ys (o-xs.length*sz):=by
 have b:xs.length<=o / sz:=(Hd hs).2 h
 obtain ⟨q,rfl⟩:=Nat.exists_eq_add_of_le h
 have h1:(xs.length*sz+q) / sz=xs.length+q / sz:=by rw [Fg,Js hs]
 have a:(xs.length*sz+q) % sz=q % sz:=by simp
 simp only [cellAt,h1,a,Gv]
 rw [Ar o_]
 simp
theorem lX {sz n:Nat} {xs:List AVal} {q:Nat} (hs:0<sz) (h:q<n*sz):cellAt sz (xs.take n) q=cellAt sz xs q:=by
 have a:q / sz<n:=(Ea hs).2 h
 simp [cellAt,Br a]
theorem yM {sz n:Nat} {xs:List AVal} {q:Nat} (hs:0<sz):cellAt sz (xs.drop n) q=cellAt sz xs (n*sz+q):=by
 have h1:(n*sz+q) / sz=n+q / sz:=by rw [Fg,Js hs]
 have a:(n*sz+q) % sz=q % sz:=by simp
 simp [cellAt,h1,a,Ci]
theorem EI {sz i:Nat} {xs ys:List AVal} (hs:0<sz) (d:i+ys.length<=xs.length) {q:Nat} {c:AVal} (h:cellAt sz (xs.take i++ys++xs.drop (i+ys.length)) q=some c):
  (i*sz<=q/\q<i*sz+ys.length*sz/\cellAt sz ys (q-i*sz)=some c)\/((q<i*sz\/i*sz+ys.length*sz<=q)/\cellAt sz xs q=some c):=by
 have hl:(xs.take i).length=i:=by simp;omega
 have a:(xs.take i++ys).length=i+ys.length:=by simp;omega
 by_cases h1:q<i*sz
 .right
  refine ⟨.inl h1,?_⟩
  rw [Ay,cH hs (by grind),lX hs h1] at h
  exact h
 .by_cases b:q<i*sz+ys.length*sz
  .left
   rw [cH hs (by rw [a,Bz];exact b),bY hs (by grind),hl] at h
   grind
  .right
   refine ⟨.inr o_,?_⟩
   rw [bY hs (by rw [a,Bz];omega),yM hs,a] at h
   have:(i+ys.length)*sz+(q-(i+ys.length)*sz)=q:=by rw [Bz];omega
   simp_all
theorem eN {α:Type} (cv vs:List α) (off:Nat) (h:off+vs.length<=cv.length):(cv.take off++vs++cv.drop (off+vs.length)).length=cv.length/\
  ∀ (i:Nat),(cv.take off++vs++cv.drop (off+vs.length))[i]? =if off<=i/\i<off+vs.length then vs[i-off]? else cv[i]?:=by
 refine ⟨by simp;omega,fun i=>?_⟩
 by_cases h1:i<off
 .rw [Ay,Ag q_,if_neg o_,Br h1]
 .by_cases a:i<off+vs.length
  .rw [if_pos ⟨by omega,a⟩,Ay,Ar q_,Ag q_]
   congr 1
   simp;omega
  .rw [if_neg o_,Ar q_,Ci]
   congr 1
   simp;omega
section
variable {M:Imm} {ob:Hs} {obs:List AObj} {w:World}
theorem fC {hs:List Value} {g:Nat} {v:Value} (hl:hs.length=g+1) (a:hs[g]? =some v):blk hs=JG v:=by
 unfold blk
 rw [Kj,hl,Ih,a]
theorem rY {hs:List Value} {v:Value} {b:Nat} (h:blk hs=v.ownBlock.toList) (e:v.ownBlock=some b):b∈blk hs:=by grind
theorem uO {hs:List Value} {v:Value} {b:Nat} (h:blk hs=v.ownBlock.toList) (e:b∈blk hs):v.ownBlock=some b:=by grind
theorem eF {w:World} {e:TypeId} {sz n:Nat} {v:Value} {cv:List Value} (h:w.ownsRow 0 e sz v n cv):JG v=v.ownBlock.toList:=by
 rcases h.2 with ⟨rfl,_⟩ | ⟨g,cap,a,rfl,_⟩<;>rfl
theorem cA {k g:Nat} {hs:List Value} (h:ob[k]? =some hs):at' ob k g=hs[g]?:=by simp [at',h]
theorem Mem.rowOf (h:Mem M ob obs w) {k g sz:Nat} {e:TypeId} {xs:List AVal} (d:obs[k]? =some (.row g sz e xs)):∃ hs v,ob[k]? =some hs/\hs.length=g+1/\hs[g]? =some v/\at' ob k g=some v/\dG M w v sz e xs/\blk hs=v.ownBlock.toList:=by
 obtain ⟨hs,h1,b,v,h3,a⟩:=h.obj k _ d
 refine ⟨hs,v,h1,b,h3,(cA h1).trans h3,a,(fC b h3).trans ?_⟩
 obtain ⟨cv,c,_⟩:=a
 exact eF c
theorem Mem.rowTurn (h:Mem M ob obs w) {k g sz:Nat} {e:TypeId} {xs:List AVal} (I:obs[k]? =some (.row g sz e xs)) {hs:List Value} {v:Value} (F:ob[k]? =some hs) (J:hs[g]? =some v)
  {w':World} {n:Nat} {hs':List Value} {t:Value} {xs':List AVal} (hp:hs<+:hs') (r:hs'.length=n+1) (s:hs'[n]? =some t) (C:dG M w' t sz e xs')
  (heap:∀ b,b<w.heap.size->v.ownBlock≠some b->w'.heap[b]? =w.heap[b]?) (z:w'.os=w.os) (j:w'.tape=w.tape) (l:w'.output=w.output) (i:w.heap.size<=w'.heap.size)
  (N:∀ b,t.ownBlock=some b->v.ownBlock=some b\/w.heap.size<=b):
  Mem M (ob.set k hs') (obs.set k (.row n sz e xs')) w'/\Ext M ob obs w M (ob.set k hs') (obs.set k (.row n sz e xs')) w'/\cD ob obs (ob.set k hs') (obs.set k (.row n sz e xs')):=by
 obtain ⟨K,Q,G,P,e3,_,m,f⟩:=h.rowOf I
 rw [F] at G
 cases G
 rw [J] at e3
 cases e3
 obtain ⟨cv,D,_,_,_,B,_⟩:=m
 obtain ⟨cv',c,_⟩:=id C
 have p:∀ b o y,M b o y->v.ownBlock≠some b:=fun b o y x e=>B b e o y x
 refine h.turn I F hp (fun e=>by cases e) (fun _ _ _ h=>h) (fun _ _ _ h=>.inl h) (fun b o y x=>?_) (fun b A L=>heap b A fun e=>L ⟨rfl,rY f e⟩) z j l i (fun _=>?_) (fun _ b d=>?_)
 .obtain ⟨u,H,h1,O⟩:=h.imm b o y x
  exact ⟨u,(Dc (w:=w) (a:=⟨b,o,none⟩) (heap b (Cy w _ H) (p b o y x))).trans H,h1,O⟩
 .exact ⟨r,t,s,C⟩
 .have d:=uO ((fC r s).trans (eF c)) d
  refine ⟨?_,(c.lt b d).2⟩
  rcases N b d with q | q
  .exact .inl ⟨rfl,rY f q⟩
  omega
theorem eY {α:Type} {l:List α} {k:Nat} {x:α} (h:l[k]? =some x):l.set k x=l:=by
 apply Ek
 intro i
 by_cases a:i=k
 .subst a
  rw [Ba (Ac.1 h).1,h]
 .rw [Bh (fun e=>a e.symm)]
theorem dG.write {v:Value} {sz:Nat} {e:TypeId} {xs xs':List AVal} (h:dG M w v sz e xs) {b n cap:Nat} (D:v= .slice (some ⟨b,0,none⟩) n cap) (hs:0<sz) {p:Nat} {news:List Value} (hp:p+news.length<=xs.length*sz)
  (h1:∀ u∈news,u.oneCell'=true) (hl:xs'.length=xs.length) (hz:∀ x∈xs',x.cells.length=sz)
  (L:∀ q c,cellAt sz xs' q=some c->(p<=q/\q<p+news.length/\∃ u,news[q-p]? =some u/\Rep M [] u c)\/((q<p\/p+news.length<=q)/\cellAt sz xs q=some c)):
  ∃ a,w.heap[b]? =some (.cells a e (0,0))/\p+news.length<=a.size/\dG M (w.setRow b (a.toList.take p++news++a.toList.drop (p+news.length)).toArray) v sz e xs':=by
 subst D
 obtain ⟨cv,⟨U,I⟩,h3,S,P,F,K⟩:=h
 rcases I with ⟨o,_⟩ | ⟨g,s,a,o,_,e3,G,H,t,N⟩
 .cases o
 cases o
 have O:xs.length*sz<=a.size:=by rw [t];exact Cg _ G
 have m:p+news.length<=a.toList.length:=by simp;omega
 obtain ⟨B,z⟩:=eN a.toList news p m
 have k:∀ q,q<xs.length*sz->cv[q]? =a.toList[q]?:=fun q d=>by rw [<-N,Br d]
 refine ⟨a,e3,by omega,(a.toList.take p++news++a.toList.drop (p+news.length)).take (xs.length*sz),⟨by rw [hl,Fc,B,Hx];simp;omega,.inr ⟨b,cap,_,by rw [hl],Cc _,setRow_heap w b a _ e _ e3,by omega,H,?_,by rw [hl]⟩⟩,fun u f=>?_,hz,fun q c d=>?_,F,fun R J A T Q l u f=>?_⟩
 .rw [Fj,B,Hx,t]
 .obtain ⟨q,d⟩:=Ch f
  rw [Fs] at d
  split at d
  .rename_i i
   rw [z] at d
   split at d
   .exact h1 u (Az d)
   .rw [<-k q i] at d
    exact h3 u (Az d)
  .cases d
 .have i:=eR hs d
  rw [hl] at i
  rw [Br i,z]
  rcases L q c d with ⟨y,r,u,f,C⟩ | ⟨y,r⟩
  .rw [if_pos ⟨y,r⟩];exact ⟨u,f,C⟩
  .rw [if_neg o_,<-k q i]
   exact P q c r
 .cases J
  rw [setRow_heap w b a _ e _ e3] at l
  cases l
  have j:∀ u∈a.toList,u.oneCell'=true:=K b rfl _ _ _ e3
  simp only [Ao] at f
  rcases f with (f | f) | f
  .exact j u (Cx f)
  .exact h1 u f
  .exact j u (Ed f)
theorem Mem.rowWrite {P:Program} (h:Mem M ob obs w) {k g sz:Nat} {e:TypeId} {xs xs':List AVal} (o:obs[k]? =some (.row g sz e xs)) {b n cap:Nat} (t:at' ob k g=some (.slice (some ⟨b,0,none⟩) n cap)) (hs:0<sz)
  {p:Nat} {news:List Value} (hp:p+news.length<=xs.length*sz) (h1:∀ u∈news,u.oneCell'=true) (hl:xs'.length=xs.length) (hz:∀ x∈xs',x.cells.length=sz)
  (A:∀ q c,cellAt sz xs' q=some c->(p<=q/\q<p+news.length/\∃ u,news[q-p]? =some u/\Rep M [] u c)\/((q<p\/p+news.length<=q)/\cellAt sz xs q=some c)):
  ∃ w',(storeCells ⟨b,p,none⟩ news).run P w= .ok () w'/\Mem M ob (obs.set k (.row g sz e xs')) w'/\Ext M ob obs w M ob (obs.set k (.row g sz e xs')) w'/\cD ob obs ob (obs.set k (.row g sz e xs')):=by
 obtain ⟨d,v,l,s,e3,m,a,j⟩:=h.rowOf o
 rw [t] at m
 cases m
 obtain ⟨f,B,C,z⟩:=a.write rfl hs hp h1 hl hz A
 have hst:=run_storeCells_at P b p e news 0 f w B o_ h1
 simp only [Dy] at hst
 refine ⟨_,hst,?_⟩
 have:=h.rowTurn (hs':=d) o l e3 (Dd _) s e3 z (fun r _ y=>setRow_other w b r _ (fun e=>y (by simp [Gi,e]))) rfl rfl rfl s_ (fun r i=>.inl i)
 rw [eY l] at this
 exact this
end
theorem tP (w:World) (o:Obj):(w.alloc o).heap.size=w.heap.size+1:=by
 simp
structure Grown (M:Imm) (w w':World) (sz:Nat) (e:TypeId) (v:Value) (xs:List AVal):Prop where
 own:∃ cv,w'.ownsRow 0 e sz v xs.length cv/\(∀ u∈cv,u.oneCell'=true)/\∀ (q:Nat) c,cellAt sz xs q=some c->∃ u,cv[q]? =some u/\Rep M [] u c
 pos:0<sz
 hz:∀ x∈xs,x.cells.length=sz
 blk:∀ b,v.ownBlock=some b->w.heap.size<=b
 heap:∀ b,b<w.heap.size->w'.heap[b]? =w.heap[b]?
 os:w'.os=w.os
 tape:w'.tape=w.tape
 output:w'.output=w.output
 size:w.heap.size<=w'.heap.size
 oneb:QT w' v
section
variable {M:Imm} {ob:Hs} {obs:List AObj} {w w':World} {sz:Nat} {e:TypeId} {v:Value} {xs:List AVal}
theorem eO {w:World} {n:Nat} {cv:List Value} (h:w.ownsRow 0 e sz v n cv) {b:Nat} (a:v.ownBlock=some b) {q:Nat} {u:Value} (c:cv[q]? =some u):w.cell? ⟨b,q,none⟩=some u:=by
 have:=h.cells (g:=b) a q u c
 rwa [aW,Cb] at this
theorem dB {w:World} {n:Nat} {cv:List Value} (h:w.ownsRow 0 e sz v n cv):(v= .slice none 0 0/\n=0)\/∃ b cap,v= .slice (some ⟨b,0,none⟩) n cap/\v.ownBlock=some b/\n<=cap/\cap<=maxLen:=by
 rcases h.2 with h | ⟨g,cap,f,a,_,_,c,d,_⟩
 .exact .inl h
 .exact .inr ⟨g,cap,a,by rw [a];rfl,c,d⟩
def fT (M:Imm) (v:Value) (sz:Nat) (xs:List AVal):Imm:=fun b o x=>M b o x\/(v.ownBlock=some b/\cellAt sz xs o=some x)
theorem iU {w:World} {cv:List Value} (h:w.ownsRow 0 e sz v xs.length cv) (hz:∀ x∈xs,x.cells.length=sz) {t:Tk} (a:sG ob v t):Rep (fT M v sz xs) ob v (.slice sz xs t):=by
 rcases dB h with ⟨rfl,g⟩ | ⟨b,cap,l,f,e3,k⟩
 .have:xs=[]:=Al g
  subst this
  exact .slnil sz t a
 .subst l
  refine .sl sz b 0 xs.length cap xs t rfl e3 (by simp only [maxLen] at k;omega) hz (fun i j x c d m=>.inr ⟨f,?_⟩) a
  rw [Cb]
  exact GP d m (hz x (Az d))
theorem Grown.imm (g:Grown M w w' sz e v xs) (h:Mem M ob obs w):∀ b o y,fT M v sz xs b o y->∃ u,w'.cell? ⟨b,o,none⟩=some u/\u.oneCell'=true/\Rep (fT M v sz xs) [] u y:=by
 obtain ⟨cv,h1,j,h3⟩:=g.own
 intro b o y c
 rcases c with c | ⟨i,c⟩
 .obtain ⟨u,d,l,k⟩:=h.imm b o y c
  exact ⟨u,(Dc (w:=w) (a:=⟨b,o,none⟩) (g.heap b (Cy w _ d))).trans d,l,k.monoM fun _ _ _ h=>.inl h⟩
 .obtain ⟨u,d,f⟩:=h3 o y c
  exact ⟨u,eO h1 i d,j u (Az d),f.monoM fun _ _ _ h=>.inl h⟩
theorem Grown.more (g:Grown M w w' sz e v xs) (h:Mem M ob obs w):Mem (fT M v sz xs) ob obs w'/\Ext M ob obs w (fT M v sz xs) ob obs w':=
 h.more (fun _ _ _ h=>.inl h) (fun b o y a=>by
  rcases a with a | ⟨c,_⟩
  .grind
  .exact .inr (g.blk b c)) (g.imm h) g.heap g.os g.tape g.output g.size
theorem Grown.row (g:Grown M w w' sz e v xs) (h:Mem M ob obs w) {k:Nat} (h1:obs[k]? =some .dead) (l:ob[k]? =some []):
  Mem M (ob.set k [v]) (obs.set k (.row 0 sz e xs)) w'/\Ext M ob obs w M (ob.set k [v]) (obs.set k (.row 0 sz e xs)) w'/\cD ob obs (ob.set k [v]) (obs.set k (.row 0 sz e xs)):=by
 obtain ⟨cv,f,m,q⟩:=g.own
 refine h.turn h1 l ⟨[v],rfl⟩ (fun _=>rfl) (fun _ _ _ h=>h) (fun _ _ _ h=>.inl h) (fun b o y j=>?_) (fun b c _=>g.heap b c) g.os g.tape g.output g.size (fun _=>⟨rfl,v,rfl,cv,f,m,g.hz,q,fun b c o=>h.noImm (g.blk b c) o,g.oneb⟩) (fun _ b c=>?_)
 .obtain ⟨u,i,p,n⟩:=h.imm b o y j
  exact ⟨u,(Dc (w:=w) (a:=⟨b,o,none⟩) (g.heap b (Cy w _ i))).trans i,p,n⟩
 .have d:v.ownBlock=some b:=uO (hs:=[v]) (eF f) c
  exact ⟨.inr (g.blk b d),(f.lt b d).2⟩
theorem Grown.tail (g:Grown M w w' sz e v xs) (h:Mem M ob obs w) {k:Nat} (h1:obs[k]? =some .dead) (j:ob[k]? =some []):
  Mem (fT M v sz xs) (ob.set k [v]) (obs.set k (.tail 0 sz e)) w'/\Ext M ob obs w (fT M v sz xs) (ob.set k [v]) (obs.set k (.tail 0 sz e)) w'/\cD ob obs (ob.set k [v]) (obs.set k (.tail 0 sz e))/\
   Rep (fT M v sz xs) (ob.set k [v]) v (.slice sz xs (.own k 0)):=by
 obtain ⟨cv,i,n,p⟩:=g.own
 have l:k<ob.length:=(Ac.1 j).1
 have a:=h.turn (M':=fT M v sz xs) (w':=w') (x':=.tail 0 sz e) (hs':=[v]) h1 j ⟨[v],rfl⟩ (fun _=>rfl) (fun _ _ _ h=>.inl h) (fun b o y c=>by
  rcases c with c | ⟨d,_⟩
  .grind
  .exact .inr (.inr (g.blk b d))) (g.imm h) (fun b d _=>g.heap b d) g.os g.tape g.output g.size
  (fun _=>⟨rfl,v,rfl,_,cv,i,fun b d o m y c=>by
   rcases c with c | ⟨_,c⟩
   .exact h.noImm (g.blk b d) o y c
   .have:=eR g.pos c;omega⟩)
  (fun _ b d=>by
   have f:v.ownBlock=some b:=uO (hs:=[v]) (eF i) d
   exact ⟨.inr (g.blk b f),(i.lt b f).2⟩)
 refine ⟨a.1,a.2.1,a.2.2,iU i g.hz ?_⟩
 show at' _ k 0=some v
 rw [cA (Ba l)]
 rfl
end
theorem BS (w:World):QT w (.slice none 0 0):=fun b a=>by cases a
theorem iK {z:Array Value} {n:Nat} (hz:z.toList.all (·.oneCell')=true):∀ u∈(Ce z n).toList,u.oneCell'=true:=by
 intro u b
 simp only [Ce,Jf,Bb] at b
 obtain ⟨i,d,rfl⟩:=b
 have a:0<z.size:=by
  refine Nat.pos_of_ne_zero fun e=>?_
  simp_all
 have c:i % z.size<z.size:=Gp _ a
 simp_all
theorem oF {w:World} {cs:List Value} {n c:Nat} {T:TypeId} (h:∀ u∈cs,u.oneCell'=true):QT (w.alloc (.cells cs.toArray T)) (.slice (some ⟨w.heap.size,0,none⟩) n c):=by
 intro b a d f g e u i
 cases a
 rw [heap_alloc_new w _] at e
 grind
theorem gH {P:Program} (w:World) (t H ty e:TypeId) (i:TypeInfo) (z:Value) (N:P.underlying t=some (.slice e)) (O:P.info? e=some i) (hz:i.zero=some z) (hz1:z.cells.toList.all (·.oneCell')=true)
  (U:z.cells.size=i.size) (v:Value) (n:Nat) (a:List Value) (d:w.ownsRow 0 e i.size v n a) (S:∀ u∈a,u.oneCell'=true) (x:Value) (m:Nat) (news:List Value) (hs:Src P i.size H x m news w)
  (L:n+m<=maxLen) (r:(n+m)*i.bytes<=140737488355328):
  ∃ G w',(Cr #[t,H] ty #[v,x]).run P w= .ok G w'/\w'.ownsRow 0 e i.size G (n+m) (a++news)/\w'.os=w.os/\w'.tape=w.tape/\w'.output=w.output/\w.heap.size<=w'.heap.size/\
   ((G.ownBlock=v.ownBlock/\∀ b,v.ownBlock≠some b->w'.heap[b]? =w.heap[b]?)\/(G.ownBlock=some w.heap.size/\∀ b,b<w.heap.size->w'.heap[b]? =w.heap[b]?))/\(QT w v->QT w' G):=by
 have f:(a++news).length=(n+m)*i.size:=by rw [Bo,d.1,hs.newsLen,Bz]
 have h63':n+m<=4611686018427387904\/True:=.inr trivial
 have y:∀ (q:Nat),q<n+m->
   (w.drew.alloc (.cells ((a++news).toArray++Ce z.cells (grownCap w (n+m) q e-(n+m))) e)).ownsRow 0 e i.size
    (.slice (some ⟨w.heap.size,0,none⟩) (n+m) (grownCap w (n+m) q e)) (n+m) (a++news):=by
  intro q ho
  have X:=grownCap_ge w (n+m) q e
  have D:grownCap w (n+m) q e<=maxLen:=grownCap_le_maxLen w (n+m) q e L
  refine ⟨f,.inr ⟨w.heap.size,_,_,rfl,Cc _,heap_alloc_new w.drew _,X,D,?_,?_⟩⟩
  .simp only [Array.size_append,Fj,size_zeroCells,U,f,<-Bz]
   simp_all
  .simp only [Lp]
   rw [<-f]
   exact Kf
 have s:∀ (k Z c':Nat),QT (w.drew.alloc (.cells ((a++news).toArray++Ce z.cells k) e)) (.slice (some ⟨w.heap.size,0,none⟩) Z c'):=by
  intro k Z c'
  have:(a++news).toArray++Ce z.cells k=((a++news)++(Ce z.cells k).toList).toArray:=by simp
  rw [this]
  refine oF (w:=w.drew) fun u c=>?_
  rcases Ao.1 c with c | c
  .rcases Ao.1 c with c | c
   .exact S u c
   .exact hs.one u c
  .exact iK hz1 u c
 have K:∀ o,w.heap.size<=(w.drew.alloc o).heap.size:=fun o=>by simp
 have J:((n+m:Nat):Int)<=9223372036854775807:=by simp only [maxLen] at L;omega
 rcases d.2 with ⟨rfl,rfl⟩ | ⟨g,cap,p,rfl,_,M,hnc,D,Q,C⟩
 .have hx:a=[]:=Al (by simpa using d.1)
  subst hx
  by_cases hm:m=0
  .subst hm
   have hn:news=[]:=Al (by simpa using hs.newsLen)
   subst hn
   refine ⟨.slice none 0 0,w,?_,Hh w 0 e i.size,rfl,rfl,rfl,Bi _,.inl ⟨rfl,fun _ _=>rfl⟩,fun h=>h⟩
   rcases hs.kind with ⟨e',I⟩ | I<;>simp [Cr,run_underlying N,run_underlying I,sizeOf,typeInfo,O,hs.len,hs.cells]
  .have F:=run_append_grow_src (P:=P) w t H ty e i z N O hz none 0 0 [] (by rfl) x m news hs o_ J (growslice_fits o_ r)
   exact ⟨_,_,F,y 0 o_,rfl,rfl,rfl,K _,.inr ⟨rfl,fun b B=>heap_alloc_old w.drew _ B⟩,fun _=>s _ _ _⟩
 .by_cases l:n+m<=cap
  .have Y:n*i.size+news.length<=p.size:=by rw [hs.newsLen,Q,<-Bz];exact Cg _ l
   have hst:=run_storeCells_at P g (n*i.size) e news 0 p w M o_ hs.one
   simp only [Dy] at hst
   have T:(⟨g,0,none⟩:Addr).add (n*i.size)=⟨g,n*i.size,none⟩:=by rw [aW,Cb]
   have F:(Cr #[t,H] ty #[.slice (some ⟨g,0,none⟩) n cap,x]).run P w= .ok (.slice (some ⟨g,0,none⟩) (n+m) cap) (w.setRow g (p.toList.take (n*i.size)++news++p.toList.drop (n*i.size+news.length)).toArray):=by
    rcases hs.kind with ⟨e',I⟩ | I<;>simp [Cr,run_underlying N,run_underlying I,sizeOf,typeInfo,O,hs.len,l,hs.cells,T,hst]
   refine ⟨_,_,F,⟨f,.inr ⟨g,cap,_,rfl,Cc _,setRow_heap w g p _ e _ M,l,D,?_,?_⟩⟩,rfl,rfl,rfl,by simp,.inl ⟨rfl,fun b B=>setRow_other w g b _ (fun e=>B (by simp [Gi,e]))⟩,fun V b B cur' T' fz hc u c=>?_⟩
   .simp only [Fj,Bo,Fc,Gs,Hx]
    omega
   .rw [C,<-f]
    exact Kf
   .cases B
    rw [setRow_heap w g p _ e _ M] at hc
    cases hc
    have A:∀ u∈p.toList,u.oneCell'=true:=V g rfl _ _ _ M
    simp only [Ao] at c
    rcases c with (c | c) | c
    .exact A u (Cx c)
    .exact hs.one u c
    .exact A u (Ed c)
  .have R:∀ (j:Nat) u,a[j]? =some u->w.cell? ((⟨g,0,none⟩:Addr).add j)=some u:=d.cells (g:=g) rfl
   have W:(Cj i.size n (.slice (some ⟨g,0,none⟩) n cap)).run P w.drew= .ok a.toArray w.drew:=run_firstCells_some w.drew i.size n ⟨g,0,none⟩ n cap a d.1 q_
   have F:=run_append_grow_src (P:=P) w t H ty e i z N O hz (some ⟨g,0,none⟩) n cap a W x m news hs o_ J (growslice_fits o_ r)
   exact ⟨_,_,F,y cap o_,rfl,rfl,rfl,K _,.inr ⟨rfl,fun b B=>heap_alloc_old w.drew _ B⟩,fun _=>s _ _ _⟩
section
variable {M:Imm} {ob:Hs} {obs:List AObj} {w:World}
structure SrcA (P:Program) (M:Imm) (w:World) (sz:Nat) (tx:TypeId) (x:Value) (ys:List AVal):Prop where
 src:∃ news,Src P sz tx x ys.length news w/\∀ (q:Nat) c,cellAt sz ys q=some c->∃ u,news[q]? =some u/\Rep M [] u c
 hz:∀ y∈ys,y.cells.length=sz
 pre:∀ m,m<=ys.length->∃ news:List Value,(Cj sz m x).run P w= .ok news.toArray w/\news.length=m*sz/\(∀ u∈news,u.oneCell'=true)/\∀ (q:Nat) c,q<m*sz->cellAt sz ys q=some c->∃ u,news[q]? =some u/\Rep M [] u c
theorem Mem.appendRow {P:Program} (h:Mem M ob obs w) {t N ty e:TypeId} {i:TypeInfo} {z:Value} (ht:P.underlying t=some (.slice e)) (hi:P.info? e=some i) (hz:i.zero=some z) (hz1:z.cells.toList.all (·.oneCell')=true)
  (R:z.cells.size=i.size) (p:0<i.size) {k g:Nat} {xs ys:List AVal} (X:obs[k]? =some (.row g i.size e xs)) {v x:Value} (hv:at' ob k g=some v) (hs:SrcA P M w i.size N x ys)
  (S:xs.length+ys.length<=maxLen) (n:(xs.length+ys.length)*i.bytes<=140737488355328):
  ∃ a w' ob',(Cr #[t,N] ty #[v,x]).run P w= .ok a w'/\Mem M ob' (obs.set k (.row (g+1) i.size e (xs++ys))) w'/\Ext M ob obs w M ob' (obs.set k (.row (g+1) i.size e (xs++ys))) w'/\
   cD ob obs ob' (obs.set k (.row (g+1) i.size e (xs++ys)))/\Rep M ob' a (.row k (g+1)):=by
 obtain ⟨l,v0,V,T,e3,W,D,U⟩:=h.rowOf X
 rw [hv] at W
 cases W
 obtain ⟨cv,K,Y,o3,o4,o5,o6⟩:=D
 obtain ⟨⟨news,Z,s2⟩,s3⟩:=hs
 obtain ⟨a,w',hr,s,O,C,F,r,d,A⟩:=gH (P:=P) w t N ty e i z ht hi hz hz1 R v xs.length cv K Y x ys.length news Z S n
 have f:∀ b,a.ownBlock=some b->v.ownBlock=some b\/w.heap.size<=b:=fun b H=>by
  rcases d with ⟨q,_⟩ | ⟨q,_⟩
  .exact .inl (q▸H)
  .rw [q] at H;cases H;omega
 have B:dG M w' a i.size e (xs++ys):=by
  refine ⟨cv++news,by simp;omega,fun u I=>?_,fun y G=>?_,fun q c L=>?_,fun b H o=>?_,A o6⟩
  .rcases Ao.1 I with I | I
   .exact Y u I
   .exact Z.one u I
  .rcases Ao.1 G with G | G
   .exact o3 y G
   .exact s3 y G
  .by_cases m:q<xs.length*i.size
   .rw [cH p m] at L
    rw [Ag (by rw [K.1];exact m)]
    exact o4 q c L
   .rw [bY p o_] at L
    rw [Ar (by rw [K.1];omega),K.1]
    exact s2 _ c L
  .rcases f b H with q | q
   .exact o5 b q o
   .exact h.noImm q o
 have Q:(l++[a]).length=g+1+1:=by simp [T]
 have J:(l++[a])[g+1]? =some a:=by rw [<-T];simp
 have:=h.rowTurn (hs':=l++[a]) X V e3 ⟨[a],rfl⟩ Q J B (fun b m hn=>by
  rcases d with ⟨_,q⟩ | ⟨_,q⟩
  .exact q b hn
  .exact q b m) O C F r f
 refine ⟨a,w',_,hr,this.1,this.2.1,this.2.2,?_⟩
 have hk:k<ob.length:=(Ac.1 V).1
 have j:at' (ob.set k (l++[a])) k (g+1)=some a:=by rw [cA (Ba hk)];exact J
 rcases dB s with ⟨q,_⟩ | ⟨b,cap,q,_⟩
 .rw [q] at j⊢;exact .row _ _ _ _ _ j
 .rw [q] at j⊢;exact .row _ _ _ _ _ j
theorem KM {v:Value} {sz:Nat} {xs:List AVal} {e:TypeId} {n:Nat} {cv:List Value} (f:Rep M ob v (.slice sz xs .no)) (d:w.ownsRow 0 e sz v n cv):n=xs.length:=by
 obtain ⟨a,c,rfl,h1,_⟩:=f.slice_inv
 rcases dB d with ⟨q,g⟩ | ⟨b,cap,q,_⟩
 .grind
 grind
theorem Mem.appendTail {P:Program} (h:Mem M ob obs w) {t tx ty e:TypeId} {i:TypeInfo} {z:Value} (ht:P.underlying t=some (.slice e)) (hi:P.info? e=some i) (hz:i.zero=some z) (hz1:z.cells.toList.all (·.oneCell')=true)
  (hzs:z.cells.size=i.size) (s:0<i.size) {k g:Nat} {xs ys:List AVal} (S:obs[k]? =some (.tail g i.size e)) {v x:Value} (hv:Rep M ob v (.slice i.size xs (.own k g))) (hs:SrcA P M w i.size tx x ys)
  (h63:xs.length+ys.length<=maxLen) (K:(xs.length+ys.length)*i.bytes<=140737488355328):
  ∃ A w' M' ob',(Cr #[t,tx] ty #[v,x]).run P w= .ok A w'/\Mem M' ob' (obs.set k (.tail (g+1) i.size e)) w'/\Ext M ob obs w M' ob' (obs.set k (.tail (g+1) i.size e)) w'/\
   cD ob obs ob' (obs.set k (.tail (g+1) i.size e))/\Rep M' ob' A (.slice i.size (xs++ys) (.own k (g+1))):=by
 obtain ⟨W,hvt⟩:=hv.untok
 have hvt':at' ob k g=some v:=hvt
 obtain ⟨I,e1,e2,v0,e3,n,cv,C,o5⟩:=h.obj k _ S
 have e4:I[g]? =some v:=by rw [<-cA e1];exact hvt'
 rw [e4] at e3
 cases e3
 have hn:=KM W C
 subst hn
 obtain ⟨⟨news,s1,s2⟩,s3⟩:=hs
 -- the old row's cells
 have Z:(∀ x∈xs,x.cells.length=i.size)/\(∀ u∈cv,u.oneCell'=true)/\(∀ (q:Nat) c,cellAt i.size xs q=some c->∃ u,cv[q]? =some u/\Rep M [] u c)/\∀ b,v.ownBlock=some b->b<w.heap.size/\∀ (q:Nat) u,cv[q]? =some u->w.cell? ⟨b,q,none⟩=some u:=by
  have r:∀ b,v.ownBlock=some b->∀ (q:Nat) u,cv[q]? =some u->w.cell? ⟨b,q,none⟩=some u:=fun b d q u m=>eO C d m
  cases W with
  | slnil sz t' V=>
   have:cv=[]:=Al (by simpa using C.1)
   subst this
   exact ⟨fun x S=>by simp at S,fun u m=>by simp at m,fun q c B=>by simp [cellAt] at B,fun b d=>⟨(C.lt b d).2,r b d⟩⟩
  | slemp sz t' a cap V=>
   have:cv=[]:=Al (by simpa using C.1)
   subst this
   exact ⟨fun x S=>by simp at S,fun u m=>by simp at m,fun q c B=>by simp [cellAt] at B,fun b d=>⟨(C.lt b d).2,r b d⟩⟩
  | sl sz b o n cap xs t' hn hc hm N hM V=>
   have ho:o=0:=by
    rcases dB C with ⟨q,_⟩ | ⟨b',cap',q,_⟩
    .cases q
    .cases q;rfl
   subst ho
   have p:∀ q,q<xs.length*i.size->∃ u c,cv[q]? =some u/\cellAt i.size xs q=some c/\u.oneCell'=true/\Rep M [] u c:=fun q B=>by
    obtain ⟨c,hc⟩:=xM s N B
    obtain ⟨y,f,hyc⟩:=fB hc
    have X:=hM _ _ y c f hyc
    have hqq:0+q / i.size*i.size+q % i.size=q:=by rw [Cb,Fg];exact Ib q _
    rw [hqq] at X
    obtain ⟨u,m,h1,F⟩:=h.imm b q c X
    have j:q<cv.length:=by rw [C.1];exact B
    have:=r b rfl q _ (Ab j)
    rw [m] at this
    cases this
    exact ⟨_,c,Ab j,hc,h1,F⟩
   refine ⟨N,fun u m=>?_,fun q c B=>?_,fun b d=>⟨(C.lt b d).2,r b d⟩⟩
   .obtain ⟨q,B⟩:=Ch m
    obtain ⟨u',c,h1,_,F,_⟩:=p q (by have:=(Ac.1 B).1;rw [C.1] at this;exact this)
    rw [B] at h1
    cases h1
    exact F
   .obtain ⟨u,c',h1,F,_,h3⟩:=p q (eR s B)
    rw [B] at F
    cases F
    exact ⟨u,h1,h3⟩
 obtain ⟨N,o2,o4,o6⟩:=Z
 obtain ⟨A,w',T,l,hos,Q,U,R,H,honeb⟩:=gH (P:=P) w t tx ty e i z ht hi hz hz1 hzs v xs.length cv C o2 x ys.length news s1 h63 K
 have D:∀ b,A.ownBlock=some b->v.ownBlock=some b\/w.heap.size<=b:=fun b d=>by
  rcases H with ⟨q,_⟩ | ⟨q,_⟩
  .exact .inl (q▸d)
  .rw [q] at d;cases d;omega
 have J:∀ b,b<w.heap.size->v.ownBlock≠some b\/A.ownBlock≠some b->w'.heap[b]? =w.heap[b]?:=fun b d hne=>by
  rcases H with ⟨e1,F⟩ | ⟨_,F⟩
  .exact F b (by rcases hne with h | h;exact h;rw [<-e1];exact h)
  .exact F b d
 have hzz:∀ y∈xs++ys,y.cells.length=i.size:=fun y f=>by
  rcases Ao.1 f with f | f
  .exact N y f
  .exact s3 y f
 have L:∀ (q:Nat) c,cellAt i.size (xs++ys) q=some c->∃ u,(cv++news)[q]? =some u/\u.oneCell'=true/\Rep M [] u c:=fun q c B=>by
  by_cases j:q<xs.length*i.size
  .rw [cH s j] at B
   obtain ⟨u,m,T⟩:=o4 q c B
   exact ⟨u,by rw [Ag (by rw [C.1];exact j)];exact m,o2 u (Az m),T⟩
  .rw [bY s o_] at B
   obtain ⟨u,m,T⟩:=s2 _ c B
   exact ⟨u,by rw [Ar (by rw [C.1];omega),C.1];exact m,s1.one u (Az m),T⟩
 have G:blk I=v.ownBlock.toList:=(fC e2 e4).trans (eF C)
 have hl':(I++[A]).length=g+1+1:=by simp [e2]
 have O:(I++[A])[g+1]? =some A:=by rw [<-e2];simp
 have Y:∀ b o y,A.ownBlock=some b->M b o y->v.ownBlock=some b/\o<xs.length*i.size:=fun b o y d f=>by
  rcases D b d with q | q
  .refine ⟨q,?_⟩
   rcases Lt o (xs.length*i.size) with j | hge
   .exact j
   .exact absurd f (o5 b q o hge y)
  .exact absurd f (h.noImm q o y)
 have p:=h.turn (M':=fT M A i.size (xs++ys)) (w':=w') (x':=.tail (g+1) i.size e) (hs':=I++[A]) S e1 ⟨[A],rfl⟩ (fun e=>by cases e) (fun _ _ _ h=>.inl h) (fun b o y f=>by
   rcases f with f | ⟨d,_⟩
   .exact .inl f
   .rcases D b d with q | q
    .exact .inr (.inl ⟨rfl,rY G q⟩)
    omega) (fun b o y f=>by
   rcases f with f | ⟨d,f⟩
   .obtain ⟨u,m,h1,F⟩:=h.imm b o y f
    refine ⟨u,?_,h1,F.monoM fun _ _ _ h=>.inl h⟩
    by_cases d:A.ownBlock=some b
    .obtain ⟨q1,q2⟩:=Y b o y d f
     have j:o<cv.length:=by rw [C.1];exact q2
     have:=(o6 b q1).2 o _ (Ab j)
     rw [m] at this
     cases this
     exact eO l d (by rw [Ag j];simp)
    .exact (Dc (w:=w) (a:=⟨b,o,none⟩) (J b (Cy w _ m) (.inr d))).trans m
   .obtain ⟨u,m,h1,F⟩:=L o y f
    exact ⟨u,eO l d m,h1,F.monoM fun _ _ _ h=>.inl h⟩)
  (fun b j hn=>J b j (.inl fun e=>hn ⟨rfl,rY G e⟩)) hos Q U R
  (fun _=>⟨hl',A,O,_,cv++news,l,fun b d o ho y f=>by
   rcases f with f | ⟨_,f⟩
   .have:=(Y b o y d f).2
    rw [Bz] at ho;omega
   .have:=eR s f
    rw [Bo] at this;omega⟩)
  (fun _ b d=>by
   have hb':A.ownBlock=some b:=uO ((fC hl' O).trans (eF l)) d
   refine ⟨?_,(l.lt b hb').2⟩
   rcases D b hb' with q | q
   .exact .inl ⟨rfl,rY G q⟩
   omega)
 refine ⟨A,w',_,_,T,p.1,p.2.1,p.2.2,iU q_ hzz ?_⟩
 show at' _ k (g+1)=some A
 rw [cA (Ba (Ac.1 e1).1)]
 exact O
theorem append_nil {P:Program} (h:Mem M ob obs w) {t o ty e:TypeId} {i:TypeInfo} {z:Value} (y:P.underlying t=some (.slice e)) (C:P.info? e=some i) (hz:i.zero=some z) (hz1:z.cells.toList.all (·.oneCell')=true)
  (r:z.cells.size=i.size) (l:0<i.size) {ys:List AVal} {x:Value} (hs:SrcA P M w i.size o x ys) (B:ys.length<=maxLen) (n:ys.length*i.bytes<=140737488355328):
  ∃ m w',(Cr #[t,o] ty #[.slice none 0 0,x]).run P w= .ok m w'/\Grown M w w' i.size e m ys:=by
 obtain ⟨⟨news,s,A⟩,v⟩:=hs
 obtain ⟨m,w',u,c,p,g,k,d,a,f⟩:=gH (P:=P) w t o ty e i z y C hz hz1 r _ 0 [] (Hh w 0 e i.size) s_ x ys.length news s o_ q_
 rw [Cb,Jv] at c
 refine ⟨m,w',u,⟨news,c,s.one,A⟩,l,v,fun b j=>?_,fun b j=>?_,p,g,k,d,f (BS w)⟩
 .rcases a with ⟨q,_⟩ | ⟨q,_⟩
  .rw [q] at j;cases j
  .rw [q] at j;cases j;omega
 .rcases a with ⟨_,q⟩ | ⟨_,q⟩
  .exact q b (by simp [Gi])
  .exact q b j
end
section
variable {M:Imm} {ob:Hs} {obs:List AObj} {w:World}
theorem Mem.sliceCells (h:Mem M ob obs w) {sz b o:Nat} {xs:List AVal} (hs:0<sz) (hz:∀ x∈xs,x.cells.length=sz)
  (hm:∀ (i j:Nat) x c,xs[i]? =some x->x.cells[j]? =some c->M b (o+i*sz+j) c):
  ∃ vs:List Value,vs.length=xs.length*sz/\(∀ (j:Nat) u,vs[j]? =some u->w.cell? ⟨b,o+j,none⟩=some u)/\(∀ u∈vs,u.oneCell'=true)/\
   ∀ (q:Nat) c,cellAt sz xs q=some c->∃ u,vs[q]? =some u/\Rep M [] u c:=by
 have key:∀ q,q<xs.length*sz->∃ u,w.cell? ⟨b,o+q,none⟩=some u/\u.oneCell'=true/\∀ c,cellAt sz xs q=some c->Rep M [] u c:=by
  intro q e
  obtain ⟨c,m⟩:=xM hs hz e
  obtain ⟨x,p,l⟩:=fB m
  have r:o+q / sz*sz+q % sz=o+q:=by have:=Ib q sz;rw [Fg] at this;omega
  obtain ⟨v,a,h1,k⟩:=h.imm _ _ _ (hm _ _ _ _ p l)
  rw [r] at a
  exact ⟨v,a,h1,fun s f=>by rw [m] at f;cases f;exact k⟩
 refine ⟨(Df (xs.length*sz)).map fun q=>(w.cell? ⟨b,o+q,none⟩).getD undef,by simp,fun j u d=>?_,fun u d=>?_,fun q c e=>?_⟩
 .simp only [Bd] at d
  by_cases n:j<xs.length*sz
  .obtain ⟨v,a,_⟩:=key j n
   simp [Dr n,a] at d
   rw [a,d]
  .rw [Bj q_] at d
   simp at d
 .simp only [Bb,Fu] at d
  obtain ⟨q,e,rfl⟩:=d
  obtain ⟨v,a,h1,_⟩:=key q e
  simp [a,h1]
 .have g:=eR hs e
  obtain ⟨v,a,_,k⟩:=key q g
  exact ⟨v,by simp only [Bd,Dr g,Option.map_some,a,Gt],k c e⟩
theorem BI {P:Program} {sz c m:Nat} {n:Nat} (hm:m<=0) {ys:List AVal}:∃ news:List Value,(Cj sz m (.slice none n c)).run P w= .ok news.toArray w/\news.length=m*sz/\(∀ u∈news,u.oneCell'=true)/\∀ (q:Nat) c,q<m*sz->cellAt sz ys q=some c->∃ u,news[q]? =some u/\Rep M [] u c:=by
 have:m=0:=o_
 subst this
 exact ⟨[],rfl,by simp,fun u b=>by simp at b,fun q c a=>by simp at a⟩
theorem K3 {P:Program} {sz n c m:Nat} {a:Addr} {ys:List AVal} {vs:List Value} (hm:m*sz<=vs.length) (i:∀ (j:Nat) u,vs[j]? =some u->w.cell? (a.add j)=some u) (h1:∀ u∈vs,u.oneCell'=true)
  (h:∀ (q:Nat) c,cellAt sz ys q=some c->∃ u,vs[q]? =some u/\Rep M [] u c):
  ∃ news:List Value,(Cj sz m (.slice (some a) n c)).run P w= .ok news.toArray w/\news.length=m*sz/\(∀ u∈news,u.oneCell'=true)/\∀ (q:Nat) c,q<m*sz->cellAt sz ys q=some c->∃ u,news[q]? =some u/\Rep M [] u c:=by
 have hl:(vs.take (m*sz)).length=m*sz:=by simp;omega
 have e:Cj sz m (.slice (some a) n c)=loadCells a (m*sz):=rfl
 have:=run_loadCells_list (P:=P) w a (vs.take (m*sz)) (fun j v b=>by
  rw [Fs] at b
  split at b
  .exact i j v b
  .cases b)
 rw [hl] at this
 refine ⟨vs.take (m*sz),by grind,hl,fun u d=>h1 u (Cx d),fun q c k g=>?_⟩
 obtain ⟨u,d,f⟩:=h q c g
 exact ⟨u,by rw [Br k];exact d,f⟩
theorem K2 {P:Program} {sz c m n:Nat} {a:Addr} (hm:m<=0) {ys:List AVal}:∃ news:List Value,(Cj sz m (.slice (some a) n c)).run P w= .ok news.toArray w/\news.length=m*sz/\(∀ u∈news,u.oneCell'=true)/\∀ (q:Nat) c,q<m*sz->cellAt sz ys q=some c->∃ u,news[q]? =some u/\Rep M [] u c:=by
 have:m=0:=o_
 subst this
 have e:Cj sz 0 (.slice (some a) n c)=loadCells a (0*sz):=rfl
 have:=run_loadCells_list (P:=P) w a [] (fun j v b=>by simp at b)
 simp_all
theorem SrcA.ofSlice {P:Program} (h:Mem M ob obs w) {sz:Nat} (hs:0<sz) {k z:TypeId} (f:P.underlying k=some (.slice z)) {x:Value} {ys:List AVal} {t:Tk} (v:Rep M ob x (.slice sz ys t)):SrcA P M w sz k x ys:=by
 cases v with
 | slnil sz t i=>exact ⟨⟨[],Src.ofNil w f 0,fun q c g=>by simp [cellAt] at g⟩,fun y e=>by simp at e,fun m hm=>BI hm⟩
 | slemp sz t a cap i=>exact ⟨⟨[],Src.ofSlice w f a 0 cap [] s_ (fun j u d=>by simp at d) (fun u s=>by simp at s),fun q c g=>by simp [cellAt] at g⟩,fun y e=>by simp at e,fun m hm=>K2 hm⟩
 | sl sz b o n cap xs t r B hm hz A i=>
  subst r
  obtain ⟨vs,l1,l2,l,p⟩:=h.sliceCells hs hz A
  exact ⟨⟨vs,Src.ofSlice w f ⟨b,o,none⟩ _ cap vs l1 (fun j u d=>by rw [aW];exact l2 j u d) l,p⟩,hz,fun m hm=>K3 (vs:=vs) (by rw [l1];exact Cg _ hm) (fun j u d=>by rw [aW];exact l2 j u d) l p⟩
theorem SrcA.ofRow {P:Program} (h:Mem M ob obs w) {k g sz:Nat} {e:TypeId} {xs:List AVal} (hs:0<sz) (R:obs[k]? =some (.row g sz e xs)) {s S:TypeId} (t:P.underlying s=some (.slice S)) {v:Value} (L:at' ob k g=some v)
  {lo len:Nat} (hl:lo+len<=xs.length) {x:Value} (z:∀ b n c,v= .slice (some ⟨b,0,none⟩) n c->len≠0->∃ l,x= .slice (some ⟨b,lo*sz,none⟩) len l) (C:len=0->∃ a l,x= .slice a 0 l):SrcA P M w sz s x ((xs.drop lo).take len):=by
 obtain ⟨N,X,_,_,_,I,o,_⟩:=h.rowOf R
 rw [L] at I
 cases I
 obtain ⟨cv,r,T,V,U,Y⟩:=o
 have hz:∀ y∈(xs.drop lo).take len,y.cells.length=sz:=fun y O=>V y (Ed (Cx O))
 have f:((xs.drop lo).take len).length=len:=by simp;omega
 suffices hsuf:(∃ news,Src P sz s x len news w/\∀ (q:Nat) c,cellAt sz ((xs.drop lo).take len) q=some c->∃ u,news[q]? =some u/\Rep M [] u c)/\
   ∀ m,m<=len->∃ news:List Value,(Cj sz m x).run P w= .ok news.toArray w/\news.length=m*sz/\(∀ u∈news,u.oneCell'=true)/\∀ (q:Nat) c,q<m*sz->cellAt sz ((xs.drop lo).take len) q=some c->∃ u,news[q]? =some u/\Rep M [] u c by
  exact ⟨by rw [f];exact hsuf.1,hz,fun m hm=>hsuf.2 m o_⟩
 by_cases F:len=0
 .subst F
  obtain ⟨a,l,rfl⟩:=C rfl
  cases a with
  | none=>exact ⟨⟨[],Src.ofNil w t l,fun q c B=>by simp [cellAt] at B⟩,fun m hm=>BI hm⟩
  | some a=>exact ⟨⟨[],Src.ofSlice w t a 0 l [] s_ (fun j u d=>by simp at d) (fun u p=>by simp at p),fun q c B=>by simp [cellAt] at B⟩,fun m hm=>K2 hm⟩
 .rcases dB r with ⟨q,W⟩ | ⟨b,cap,q,Q,_⟩
  .omega
  .obtain ⟨l,rfl⟩:=z b _ cap q F
   have A:(lo+len)*sz<=cv.length:=by rw [r.1];exact Cg _ hl
   have J:((cv.drop (lo*sz)).take (len*sz)).length=len*sz:=by rw [Fc,Gs];rw [Bz] at A;omega
   have H:∀ (j:Nat) u,((cv.drop (lo*sz)).take (len*sz))[j]? =some u->w.cell? ((⟨b,lo*sz,none⟩:Addr).add j)=some u:=fun j u d=>by
    rw [Fs] at d
    split at d
    .rw [Ci] at d
     rw [aW]
     exact eO r Q d
    .cases d
   have G:∀ u∈(cv.drop (lo*sz)).take (len*sz),u.oneCell'=true:=fun u p=>T u (Ed (Cx p))
   have D:∀ (j:Nat) c,cellAt sz ((xs.drop lo).take len) j=some c->∃ u,((cv.drop (lo*sz)).take (len*sz))[j]? =some u/\Rep M [] u c:=fun j c d=>by
    have i:=eR hs d
    rw [f] at i
    rw [lX hs i,yM hs] at d
    obtain ⟨u,p,K⟩:=U _ c d
    exact ⟨u,by rw [Br i,Ci];exact p,K⟩
   exact ⟨⟨_,Src.ofSlice w t _ _ _ _ J H G,D⟩,fun m hm=>K3 (by rw [J];exact Cg _ hm) H G D⟩
theorem oJ (l:List UInt8):(⟨l.toArray⟩:ByteArray).size=l.length:=by rfl
theorem uI (c:UInt8):Rep M ob (.int .u8 c.toNat) (ub c):=.int _ _ ⟨by simp only [bW];omega,by simp only [bI];have:=c.toNat_lt;omega⟩
theorem Q9 (l:List UInt8):∀ y∈l.map ub,y.cells.length=1:=fun y a=>by obtain ⟨c,_,rfl⟩:=Bb.1 a;rfl
theorem xL (l:List UInt8) (q:Nat):cellAt 1 (l.map ub) q=(l[q]?).map ub:=by
 unfold cellAt
 rw [Jp,Nat.mod_one,Bd]
 cases l[q]?<;>rfl
theorem SrcA.ofStr {P:Program} {g:TypeId} (h:P.underlying g=some .string) (l:List UInt8):SrcA P M w 1 g (.string ⟨l.toArray⟩) (l.map ub):=by
 have f:∀ (q:Nat) c,cellAt 1 (l.map ub) q=some c->∃ b,l[q]? =some b/\c=ub b:=fun q c a=>by
  rw [xL] at a
  obtain ⟨b,d,rfl⟩:=Cq.1 a
  grind
 refine ⟨⟨byteCells ⟨l.toArray⟩,?_,fun q c a=>?_⟩,Q9 l,fun m hm=>⟨(l.take m).map fun b=>Je .u8 b.toNat,?_,by grind,fun u j=>by obtain ⟨_,_,rfl⟩:=Bb.1 j;rfl,fun q c a i=>?_⟩⟩
 .have:=Src.ofString (P:=P) w h ⟨l.toArray⟩
  rw [oJ] at this
  grind
 .rw [xL] at a
  obtain ⟨b,d,rfl⟩:=Cq.1 a
  exact ⟨.int .u8 b.toNat,by simp [byteCells,d],uI b⟩
 .have e:(Cj 1 m (.string ⟨l.toArray⟩)).run P w= .ok (((⟨l.toArray⟩:ByteArray).extract 0 m).data.map fun b=>Je .u8 b.toNat) w:=rfl
  rw [e]
  simp
 .obtain ⟨b,d,rfl⟩:=f q c i
  rw [Nat.mul_one] at a
  exact ⟨.int .u8 b.toNat,by rw [Bd,Br a,d];rfl,uI b⟩
theorem NA {P:Program} (h:Mem M ob obs w) {t K ty e:TypeId} {i:TypeInfo} {z:Value} (F:P.underlying t=some (.slice e)) (R:P.info? e=some i) (hz:i.zero=some z) (hz1:z.cells.toList.all (·.oneCell')=true)
  (T:z.cells.size=i.size) (g:0<i.size) {xs ys:List AVal} {v x:Value} (hv:Rep M ob v (.slice i.size xs .full)) (hs:SrcA P M w i.size K x ys)
  (I:xs.length+ys.length<=maxLen) (p:(xs.length+ys.length)*i.bytes<=140737488355328):
  ∃ V w',(Cr #[t,K] ty #[v,x]).run P w= .ok V w'/\((ys=[]/\V=v/\w'=w)\/(ys≠[]/\Grown M w w' i.size e V (xs++ys))):=by
 obtain ⟨A,⟨a,n,hvt⟩⟩:=hv.untok
 obtain ⟨⟨news,C,s2⟩,s3⟩:=hs
 obtain ⟨a',c,S,h0,h1,_⟩:=A.slice_inv
 subst hvt
 cases S
 have Q:((xs.length+ys.length:Nat):Int)<=9223372036854775807:=by simp only [maxLen] at I;omega
 by_cases m:ys=[]
 .subst m
  refine ⟨_,w,?_,.inl ⟨rfl,rfl,rfl⟩⟩
  have hn:news=[]:=Al (by simpa using C.newsLen)
  subst hn
  have D:Src P i.size K x 0 [] w:=C
  cases a with
  | none=>rcases D.kind with ⟨e',J⟩ | J<;>simp [Cr,run_underlying F,run_underlying J,sizeOf,typeInfo,R,D.len,D.cells]
  | some a=>rcases D.kind with ⟨e',J⟩ | J<;>simp [Cr,run_underlying F,run_underlying J,sizeOf,typeInfo,R,D.len,D.cells,storeCells]
 .have U:0<ys.length:=List.length_pos_iff.2 m
  have pre:(∀ x∈xs,x.cells.length=i.size)/\∃ d:List Value,d.length=xs.length*i.size/\(Cj i.size xs.length (.slice a xs.length xs.length)).run P w.drew= .ok d.toArray w.drew/\(∀ u∈d,u.oneCell'=true)/\
    ∀ (q:Nat) c,cellAt i.size xs q=some c->∃ u,d[q]? =some u/\Rep M [] u c:=by
   have s:xs=[]->(∀ x∈xs,x.cells.length=i.size)/\∃ d:List Value,d.length=xs.length*i.size/\(Cj i.size xs.length (.slice a xs.length xs.length)).run P w.drew= .ok d.toArray w.drew/\(∀ u∈d,u.oneCell'=true)/\
     ∀ (q:Nat) c,cellAt i.size xs q=some c->∃ u,d[q]? =some u/\Rep M [] u c:=by
    intro N
    subst N
    refine ⟨fun x N=>by simp at N,[],by simp,?_,fun u f=>by simp at f,fun q c G=>by simp [cellAt] at G⟩
    cases a<;>simp [Cj,loadCells,loadCellsFrom]
   generalize B:Gc a xs.length xs.length=v at A
   cases A with
   | slnil sz t F=>have q:=s rfl;rw [B] at q;exact q
   | slemp sz t a cap F=>have q:=s rfl;rw [B] at q;exact q
   | sl sz b o n cap xs t hn hc hm r hM F=>
    injection B with v1 v2 v3
    subst v1
    obtain ⟨d,H,Y,L,W⟩:=h.sliceCells g r hM
    exact ⟨r,d,H,run_firstCells_some w.drew i.size _ ⟨b,o,none⟩ _ _ d H (fun j u hj=>by rw [aW];simpa using Y j u hj),L,W⟩
  obtain ⟨r,d,H,Y,L,W⟩:=pre
  have hr:=run_append_grow_src (P:=P) w t K ty e i z F R hz a xs.length xs.length d Y x ys.length news C o_ Q (growslice_fits o_ p)
  have hge:=grownCap_ge w (xs.length+ys.length) xs.length e
  have X:grownCap w (xs.length+ys.length) xs.length e<=maxLen:=grownCap_le_maxLen w (xs.length+ys.length) xs.length e I
  have l:(d++news).length=(xs.length+ys.length)*i.size:=by rw [Bo,H,C.newsLen,Bz]
  refine ⟨_,_,hr,.inr ⟨m,⟨d++news,⟨by rw [l,Bo],.inr ⟨w.heap.size,_,_,by simp,Cc _,heap_alloc_new w.drew _,by simp;omega,X,?_,?_⟩⟩,fun u f=>?_,fun q c G=>?_⟩,g,fun y m=>?_,fun b Z=>?_,fun b Z=>heap_alloc_old w.drew _ Z,rfl,rfl,rfl,by simp,?_⟩⟩
  .simp only [Array.size_append,Fj,size_zeroCells,T,l,<-Bz]
   congr 1
   omega
  .rw [Bo]
   simp only [Lp]
   rw [<-l]
   exact Kf
  .rcases Ao.1 f with f | f
   .exact L u f
   .exact C.one u f
  .by_cases O:q<xs.length*i.size
   .rw [cH g O] at G
    rw [Ag o_]
    exact W q c G
   .rw [bY g o_] at G
    rw [Ar o_,H]
    exact s2 _ c G
  .rcases Ao.1 m with m | m
   .exact r y m
   .exact s3 y m
  .simp only [Gi,Em] at Z
   omega
  .have:∀ k,(d++news).toArray++Ce z.cells k=((d++news)++(Ce z.cells k).toList).toArray:=fun k=>by simp
   rw [this]
   refine oF (w:=w.drew) fun u f=>?_
   rcases Ao.1 f with f | f
   .rcases Ao.1 f with f | f
    .exact L u f
    .exact C.one u f
   .exact iK hz1 u f
theorem Grown.ofAlloc {sz:Nat} {e:TypeId} {xs:List AVal} {cv:List Value} (a:0<sz) (d:cv.length=xs.length*sz) (h1:∀ u∈cv,u.oneCell'=true) (hz:∀ x∈xs,x.cells.length=sz) (hm:xs.length<=maxLen)
  (g:∀ (q:Nat) c,cellAt sz xs q=some c->∃ u,cv[q]? =some u/\Rep M [] u c):Grown M w (w.alloc (.cells cv.toArray e)) sz e (.slice (some ⟨w.heap.size,0,none⟩) xs.length xs.length) xs:=by
 refine ⟨⟨cv,⟨d,.inr ⟨w.heap.size,xs.length,cv.toArray,rfl,Cc _,heap_alloc_new w _,Bi _,hm,by omega,by grind⟩⟩,h1,g⟩,a,hz,fun b f=>?_,fun b f=>heap_alloc_old w _ f,rfl,rfl,rfl,by simp,oF h1⟩
 simp only [Gi,Em] at f
 omega
theorem Mem.bornCells (h:Mem M ob obs w) {k:Nat} (h1:obs[k]? =some .dead) (g:ob[k]? =some []) {cv:List Value} {cs:List AVal} (T:TypeId) (hl:cv.length=cs.length) (c:∀ v∈cv,v.oneCell'=true)
  (j:∀ (i:Nat) v a,cv[i]? =some v->cs[i]? =some a->Rep M ob v a):
  Mem M (ob.set k [.pointer (some ⟨w.heap.size,0,none⟩)]) (obs.set k (.cells T cs)) (w.alloc (.cells cv.toArray T))/\Ext M ob obs w M (ob.set k [.pointer (some ⟨w.heap.size,0,none⟩)]) (obs.set k (.cells T cs)) (w.alloc (.cells cv.toArray T))/\
   cD ob obs (ob.set k [.pointer (some ⟨w.heap.size,0,none⟩)]) (obs.set k (.cells T cs))/\Rep M (ob.set k [.pointer (some ⟨w.heap.size,0,none⟩)]) (.pointer (some ⟨w.heap.size,0,none⟩)) (.ref k 0):=by
 have p:k<ob.length:=(Ac.1 g).1
 have:=h.turn (M':=M) (w':=w.alloc (.cells cv.toArray T)) (x':=.cells T cs) (hs':=[.pointer (some ⟨w.heap.size,0,none⟩)]) h1 g ⟨_,rfl⟩ (fun _=>rfl) (fun _ _ _ h=>h) (fun _ _ _ h=>.inl h) (fun b o y m=>by
   obtain ⟨u,f,r,q⟩:=h.imm b o y m
   exact ⟨u,(Dc (w:=w) (a:=⟨b,o,none⟩) (heap_alloc_old w _ (Cy w _ f))).trans f,r,q⟩)
  (fun b d _=>heap_alloc_old w _ d) rfl rfl rfl s_ (fun e=>⟨_,rfl,fun o=>h.noImm (Bi _) o,cv,heap_alloc_new w _,hl,c,fun i v a l n=>(j i v a l n).mono (fun _ _ _ h=>h) e⟩)
  (fun _ b d=>by
   have:w.heap.size=b:=dV.1 d
   simp;omega)
 refine ⟨this.1,this.2.1,this.2.2,.ref k 0 _ ?_⟩
 rw [cA (Ba p)]
 rfl
theorem Mem.bornMap (h:Mem M ob obs w) {k:Nat} (h1:obs[k]? =some .dead) (g:ob[k]? =some []) (d:Bool):
  Mem M (ob.set k [.map (some w.heap.size)]) (obs.set k (.mp d [])) (w.alloc (.map #[] 0))/\Ext M ob obs w M (ob.set k [.map (some w.heap.size)]) (obs.set k (.mp d [])) (w.alloc (.map #[] 0))/\
   cD ob obs (ob.set k [.map (some w.heap.size)]) (obs.set k (.mp d []))/\Rep M (ob.set k [.map (some w.heap.size)]) (.map (some w.heap.size)) (.mref k):=by
 have m:k<ob.length:=(Ac.1 g).1
 have:=h.turn (M':=M) (w':=w.alloc (.map #[] 0)) (x':=.mp d []) (hs':=[.map (some w.heap.size)]) h1 g ⟨_,rfl⟩ (fun _=>rfl) (fun _ _ _ h=>h) (fun _ _ _ h=>.inl h) (fun b o y l=>by
   obtain ⟨u,f,p,n⟩:=h.imm b o y l
   exact ⟨u,(Dc (w:=w) (a:=⟨b,o,none⟩) (heap_alloc_old w _ (Cy w _ f))).trans f,p,n⟩)
  (fun b e _=>heap_alloc_old w _ e) rfl rfl rfl s_ (fun q=>⟨_,rfl,fun o=>h.noImm (Bi _) o,[],0,heap_alloc_new w _,rfl,fun i x y c=>by simp at c,fun i x c=>by simp at c,fun i j x y c=>by simp at c⟩)
  (fun _ b e=>by
   have:w.heap.size=b:=dV.1 e
   simp_all)
 refine ⟨this.1,this.2.1,this.2.2,.mref k _ ?_⟩
 rw [cA (Ba m)]
 rfl
theorem Mem.cellsTurn (h:Mem M ob obs w) {k:Nat} {T:TypeId} {cs cs':List AVal} (s:obs[k]? =some (.cells T cs)) {b:Nat} (r:at' ob k 0=some (.pointer (some ⟨b,0,none⟩))) {cv':List Value} (hl:cv'.length=cs'.length) (h1:∀ u∈cv',u.oneCell'=true)
  (t:∀ (i:Nat) v a,cv'[i]? =some v->cs'[i]? =some a->Rep M ob v a):
  Mem M ob (obs.set k (.cells T cs')) (w.setRow b cv'.toArray)/\Ext M ob obs w M ob (obs.set k (.cells T cs')) (w.setRow b cv'.toArray)/\cD ob obs ob (obs.set k (.cells T cs')):=by
 obtain ⟨hs,m,c,j,f,cv,e3,_⟩:=h.obj k _ s
 have:c=b:=by rw [cA m,j] at r;simpa using r
 subst this
 have g:=eY (l:=ob) m
 have:=h.turn (M':=M) (w':=w.setRow c cv'.toArray) (x':=.cells T cs') (hs':=hs) s m (Dd _) (fun e=>by cases e) (fun _ _ _ h=>h) (fun _ _ _ h=>.inl h) (fun b o y q=>by
   obtain ⟨u,A,D,C⟩:=h.imm b o y q
   have p:b≠c:=fun e=>by subst e;exact f o y q
   exact ⟨u,(Dc (w:=w) (a:=⟨b,o,none⟩) (setRow_other w c b _ p)).trans A,D,C⟩)
  (fun b _ z=>setRow_other w c b _ fun e=>z ⟨rfl,by subst e;rw [j];exact dV.2 rfl⟩) rfl rfl rfl s_ (fun n=>⟨c,j,f,cv',setRow_heap w c _ _ T _ e3,hl,h1,fun i v a x B=>(t i v a x B).mono (fun _ _ _ h=>h) n⟩)
  (fun _ b d=>⟨.inl ⟨rfl,d⟩,by
   have:c=b:=by rw [j] at d;exact dV.1 d
   subst this
   have:=eI e3
   simp;omega⟩)
 rw [g] at this
 exact this
end
section
variable {M:Imm} {ob:Hs} {obs:List AObj} {w:World}
theorem bO {M':Imm} {ob':Hs} {f:AVal->AVal} (d:∀ v a,Rep M ob v a->Rep M' ob' v (f a)) {as:List AVal} {vs:List Value} (hl:vs.length=as.length) (h:∀ (i:Nat) v a,vs[i]? =some v->as[i]? =some a->Rep M ob v a):
  vs.length=(dH f as).length/\∀ (i:Nat) v a,vs[i]? =some v->(dH f as)[i]? =some a->Rep M' ob' v a:=by
 rw [uU]
 refine ⟨by grind,fun i v a e c=>?_⟩
 rw [Bd] at c
 obtain ⟨b,g,rfl⟩:=Cq.1 c
 grind
theorem vU {k g:Nat} {v:Value} {hs:List Value} (h1:ob[k]? =some hs) (a:at' ob k g=some v):hs[g]? =some v:=by rw [<-cA h1];exact a
theorem aFM {b o n sz:Nat} {xs:List AVal} (k:xs.length=n) (hm:(n:Int)<=9223372036854775807) (hz:∀ x∈xs,x.cells.length=sz) (h:∀ (i j:Nat) x c,xs[i]? =some x->x.cells[j]? =some c->M b (o+i*sz+j) c)
  {lo len d:Nat} (hl:lo+len<=n) (f:len<=d) {t:Tk} (e:sG ob (.slice (some ⟨b,o+lo*sz,none⟩) len d) t):Rep M ob (.slice (some ⟨b,o+lo*sz,none⟩) len d) (.slice sz ((xs.drop lo).take len) t):=by
 refine .sl sz b _ len d _ t q_ f o_ (fun x a=>hz x (Ed (Cx a))) (fun i j x c a g=>?_) e
 rw [Fs] at a
 split at a
 .rw [Ci] at a
  have:=h (lo+i) j x c a g
  rwa [Bz,<-Ks] at this
 .cases a
theorem Mem.pureV (h:Mem M ob obs w):∀ (n:Nat) (v:Value) (a:AVal),Rep M ob v a->Rep M [] v (pureV (aC obs) n a):=by
 intro n
 induction n with
 | zero=>intro v a _;exact .undef v
 | succ n y=>
  intro v a d
  cases d with
  | undef v=>exact .undef v
  | bool b=>exact .bool b
  | int k n d=>exact .int k n d
  | str l hl=>exact .str l hl
  | agg vs as hl d=>
   obtain ⟨h1,f⟩:=bO (y) hl d
   exact .agg vs _ h1 f
  | tup vs as hl d=>
   obtain ⟨h1,f⟩:=bO (y) hl d
   exact .tup vs _ h1 f
  | ptr b o cs d=>exact .ptr b o cs d
  | ref k off b m=>
   simp only [AW.pureV]
   split
   .rename_i cs p
    obtain ⟨hs,h1,J,f,h3⟩:=h.obj k _ (bL p s_)
    have:=vU h1 m
    rw [f] at this
    simp at this
    subst this
    exact .ptr _ _ _ fun j c e=>by rw [lC,Ci] at e;simp_all
   .exact .undef _
  | eref k g i sz off b n c m=>exact .undef _
  | rowc k g c a n h hm=>exact .undef _
  | pre k g n c sz b len h e A hl hm=>exact .undef _
  | csl k off len sz b m hm=>
   simp only [AW.pureV]
   split
   .rename_i cs p
    cases z:Av sz 1 with
    | false=>exact .undef _
    | true=>
     simp only [cond_true]
     split
     .rename_i l hl
      cases G:oE l with
      | false=>exact .undef _
      | true=>
       simp only [cond_true]
       obtain ⟨hs,h1,J,f,h3⟩:=h.obj k _ (bL p s_)
       have:=vU h1 m
       rw [f] at this
       simp at this
       subst this
       obtain ⟨l1,l2⟩:=iF hl
       refine .sl 1 _ off len len l .full l1 (Bi _) hm (fun x C=>?_) (fun i j x c C e=>?_) ⟨_,_,rfl⟩
       .obtain ⟨i,S⟩:=Ch C
        rw [mX (kK G i x S)];rfl
       .rw [mX (kK G i x C)] at e
        cases j with
        | succ j=>simp at e
        | zero=>
         simp at e
         subst e
         have:=l2 i x C
         rw [lC,Ci] at this
         have:=h3 _ x this
         grind
     .exact .undef _
   .exact .undef _
  | row k g a n c m=>
   simp only [AW.pureV]
   split
   .rename_i u sz xs p
    cases z:Av g u with
    | false=>exact .undef _
    | true=>
     have:=aB z
     subst this
     simp only [cond_true]
     obtain ⟨hs,h1,L,f,h3⟩:=h.obj k _ (bL p s_)
     have:=vU h1 m
     grind
   .exact .undef _
  | sub k g lo len sz b n c m hl A e hm=>
   simp only [AW.pureV]
   split
   .rename_i u s xs p
    cases z:(Av g u&&Av sz s) with
    | false=>exact .undef _
    | true=>
     obtain ⟨r,B⟩:=aQ z
     have:=aB r
     have:=aB B
     subst_vars
     simp only [cond_true]
     obtain ⟨hs,h1,L,f,h3⟩:=h.obj k _ (bL p s_)
     have:=vU h1 m
     rw [f] at this
     cases this
     rcases h3.sl_inv with ⟨q,_⟩ | ⟨a,cap,q,B⟩ | ⟨J,U,H,q,K,N,hz,O⟩
     .cases q
     .injection q with _ q3 _
      have:len=0:=o_
      subst this
      rw [Hn]
      exact .slemp _ _ _ _ trivial
     .injection q with r B q3
      injection r with r
      injection r with r q4 _
      subst r q4
      have:=aFM (ob:=[]) (t:=.no) B.symm hm hz O A (show len<=c-lo by omega) trivial
      rw [Cb] at this
      exact this
   .exact .undef _
  | sub0 k g lo sz _ a n c m hl e=>
   simp only [AW.pureV]
   split
   .rename_i u s xs p
    cases z:(Av g u&&Av sz s) with
    | false=>exact .undef _
    | true=>
     simp only [cond_true,Hn]
     cases a with
     | none=>exact .slnil _ _ trivial
     | some a=>exact .slemp _ _ _ _ trivial
   .exact .undef _
  | mref k b m=>exact .undef _
  | nilptr=>exact .nilptr
  | nilslice=>exact .nilslice
  | nilmap=>exact .nilmap
  | nilfunc=>exact .nilfunc
  | nilif=>exact .nilif
  | hsl a n c=>exact .hsl a n c
  | slnil sz t I=>exact .slnil sz .no trivial
  | slemp sz t a cap I=>exact .slemp sz .no a cap trivial
  | sl sz b o n cap xs t A e hm hz d I=>exact .sl sz b o n cap xs .no A e hm hz d trivial
  | func fn P cs T V Q e D F=>
   obtain ⟨h1,f⟩:=bO (y) Q D
   obtain ⟨h3,R⟩:=bO (y) e F
   exact .func fn P cs _ _ h1 h3 f R
  | iface t v a d=>exact .iface t v _ (y v a d)
theorem aO {k:Nat} {x y:AObj} (h:obs[k]? =some x):bH obs k y=obs.set k y:=fP y (Ac.1 h).1
def nS (M:Imm) (ob:Hs) (obs:List AObj) (w:World) (obs':List AObj):Prop:=∃ M',Mem M' ob obs' w/\Ext M ob obs w M' ob obs' w/\(∀ k:Nat,obs[k]? =some .dead->obs'[k]? =some .dead)/\obs'.length=obs.length
theorem nS.refl (h:Mem M ob obs w):nS M ob obs w obs:=⟨M,h,Ext.refl _ _ _ _,fun _ h=>h,rfl⟩
theorem nS.trans {a b:List AObj} (h:nS M ob obs w a) (k:∀ M',Mem M' ob a w->nS M' ob a w b):nS M ob obs w b:=by
 obtain ⟨e,h1,m,h3,d⟩:=h
 obtain ⟨f,n,j,c,l⟩:=k e h1
 exact ⟨f,n,m.trans j,fun i g=>c i (h3 i g),l.trans d⟩
theorem Mem.frzR (h:Mem M ob obs w) (k g:Nat):nS M ob obs w (AW.frzR obs k g):=by
 unfold AW.frzR
 split
 .rename_i q sz e xs r
  cases t:Av g q with
  | false=>exact .refl h
  | true=>
   have:=aB t
   subst this
   simp only [cond_true]
   have l:=bL r s_
   rw [aO l]
   obtain ⟨hs,v,m,C,e3,F,⟨cv,n,x,B,z,D⟩,d⟩:=h.rowOf l
   have a:=h.turn (M':=fT M v sz xs) (w':=w) (x':=.frow g sz xs) (hs':=hs) l m (Dd _) (fun e=>by cases e) (fun _ _ _ h=>.inl h) (fun b o y c=>by
     rcases c with c | ⟨j,_⟩
     .grind
     .exact .inr (.inl ⟨rfl,rY d j⟩)) (fun b o y c=>by
     rcases c with c | ⟨j,c⟩
     .obtain ⟨u,f,h1,s⟩:=h.imm b o y c
      exact ⟨u,f,h1,s.monoM fun _ _ _ h=>.inl h⟩
     .obtain ⟨u,f,p⟩:=z o y c
      exact ⟨u,eO n j f,x u (Az f),p.monoM fun _ _ _ h=>.inl h⟩) (fun _ _ _=>rfl) rfl rfl rfl (Bi _)
    (fun _=>⟨v,e3,iU n B trivial⟩) (fun e=>by cases e)
   rw [eY m] at a
   exact ⟨_,a.1,a.2.1,fun i A=>by rw [Bh (fun e=>by grind)];exact A,by simp⟩
 .exact .refl h
theorem Mem.frz1 (h:Mem M ob obs w) (k:Nat):nS M ob obs w (AW.frz1 obs k):=by
 unfold AW.frz1
 split
 .rename_i cs z
  have l:=bL z s_
  rw [aO l]
  obtain ⟨hs,n,p,m,A,cv,e3,s,t,r⟩:=h.obj k _ l
  have q:cv.length=(dH (AW.pureV (aC obs) 4) cs).length/\∀ (i:Nat) v a,cv[i]? =some v->(dH (AW.pureV (aC obs) 4) cs)[i]? =some a->Rep M [] v a:=bO (h.pureV 4) s r
  let M':Imm:=fun b o y=>M b o y\/(b=p/\(dH (AW.pureV (aC obs) 4) cs)[o]? =some y)
  have d:=h.turn (M':=M') (w':=w) (x':=.fcells (dH (AW.pureV (aC obs) 4) cs)) (hs':=hs) l n (Dd _) (fun e=>by cases e) (fun _ _ _ h=>.inl h) (fun b o y f=>by
    rcases f with f | ⟨rfl,_⟩
    .exact .inl f
    .exact .inr (.inl ⟨rfl,by rw [m];exact dV.2 rfl⟩)) (fun b o y f=>by
    rcases f with f | ⟨rfl,f⟩
    .obtain ⟨u,x,h1,B⟩:=h.imm b o y f
     exact ⟨u,x,h1,B.monoM fun _ _ _ h=>.inl h⟩
    .have g:o<cv.length:=by rw [q.1];exact (Ac.1 f).1
     exact ⟨cv[o],by rw [cell_of_row w b _ _ _ (0,0) e3];simp [g],t _ (Bg g),(q.2 o _ y (Ab g) f).monoM fun _ _ _ h=>.inl h⟩) (fun _ _ _=>rfl) rfl rfl rfl (Bi _)
   (fun _=>⟨p,m,fun j c C=>.inr ⟨rfl,C⟩⟩) (fun e=>by cases e)
  rw [eY n] at d
  exact ⟨_,d.1,d.2.1,fun i D=>by rw [Bh (fun e=>by simp_all)];exact D,by simp⟩
 .exact .refl h
theorem Mem.foldO {f:List AObj->AVal->List AObj} (b:∀ (M:Imm) (obs:List AObj) (a:AVal),Mem M ob obs w->nS M ob obs w (f obs a)):∀ (l:List AVal) (M:Imm) (obs:List AObj),Mem M ob obs w->nS M ob obs w (foldO f obs l)
 | [],_,_,h=>.refl h
 | c::r,M,obs,h=>(b M obs c h).trans fun M' d=>Mem.foldO b r M' _ d
theorem Mem.frzV:∀ (n:Nat) (M:Imm) (obs:List AObj) (a:AVal),Mem M ob obs w->nS M ob obs w (frzV n obs a):=by
 intro n
 induction n with
 | zero=>intro M obs a h;exact .refl h
 | succ n d=>
  intro M obs a h
  cases a
  case agg cs=>exact Mem.foldO d _ _ _ h
  case tup cs=>exact Mem.foldO d _ _ _ h
  case func fn fs cs=>exact (Mem.foldO d _ _ _ h).trans fun M' e=>Mem.foldO d _ _ _ e
  case iface t v=>exact d _ _ _ h
  case ref k off=>
   simp only [AW.frzV]
   split
   .exact (Mem.foldO d _ _ _ h).trans fun M' e=>e.frz1 k
   .exact .refl h
  case csl k a b c=>
   simp only [AW.frzV]
   split
   .exact (Mem.foldO d _ _ _ h).trans fun M' e=>e.frz1 k
   .exact .refl h
  case row k g=>exact h.frzR k g
  case sub k g a b c=>exact h.frzR k g
  all_goals exact .refl h
theorem Mem.frzL (l:List AVal) (h:Mem M ob obs w):nS M ob obs w (frzL obs l):=Mem.foldO (Mem.frzV 6) l M obs h
theorem Mem.frzs:∀ (l:List Nat) (M:Imm) (obs:List AObj),Mem M ob obs w->nS M ob obs w (frzs l obs)
 | [],_,_,h=>.refl h
 | k::r,M,obs,h=>by
  unfold AW.frzs
  split
  .exact (h.frzR _ _).trans fun M' a=>Mem.frzs r M' _ a
  .exact (Mem.frzV 6 M obs _ h).trans fun M' a=>Mem.frzs r M' _ a
  .exact Mem.frzs r M _ h
end
theorem K4 {k:Nat}:∀ {ks:List Nat} {j i:Nat},pos k j ks=some i->j<=i/\ks[i-j]? =some k
 | [],j,i,h=>by cases h
 | x::r,j,i,h=>by
  simp only [pos] at h
  cases a:Av x k with
  | true=>
   simp_all
  | false=>
   rw [a] at h
   obtain ⟨h1,b⟩:=K4 (ks:=r) h
   refine ⟨by omega,?_⟩
   rw [show i-j=(i-(j+1))+1 from by omega]
   simp_all
theorem R6 {k i:Nat} {ks:List Nat} (h:pos k 0 ks=some i):ks[i]? =some k:=by simpa using (K4 h).2
theorem kR {obs:List AObj}:∀ {ks:List Nat},iV ks obs=true->(∀ (j k:Nat),ks[j]? =some k->(aC obs k).owns=true)/\ks.Nodup
 | [],_=>⟨fun j k h=>by simp at h,Gh⟩
 | x::r,h=>by
  simp only [iV,Af,Co] at h
  obtain ⟨⟨h1,a⟩,h3⟩:=h
  obtain ⟨c,b⟩:=kR h3
  refine ⟨fun j k d=>?_,Bp.2 ⟨fun hm=>?_,b⟩⟩
  .cases j with
   | zero=>grind
   | succ j=>exact c j k (by simp_all)
  .rw [kL.2 hm] at a;cases a
theorem FC {l:List Nat} (h:l.Nodup):∀ {i j b:Nat},l[i]? =some b->l[j]? =some b->i=j:=by
 induction l with
 | nil=>simp
 | cons x r d=>
  intro i j b c a
  rw [Bp] at h
  cases i with
  | zero=>cases j with
   | zero=>rfl
   | succ j=>simp at c a;subst c;exact absurd (Az a) h.1
  | succ i=>cases j with
   | zero=>simp at c a;subst a;exact absurd (Az c) h.1
   | succ j=>simp at c a;rw [d h.2 c a]
theorem dU {obs:List AObj} {k:Nat} (h:(aC obs k).owns=true):obs[k]? =some (aC obs k):=by
 refine bL rfl fun e=>?_
 rw [e] at h
 cases h
def gL (n0 j:Nat) (o:AObj) (hs:List Value):List Value:=
 if 0<eB o then (if j<n0 then hs.take 1 else [])++hs.drop (eB o) else hs
def dY (n0:Nat) (ob:Hs) (obs:List AObj):Nat->List Nat->Hs
 | _,[]=>[]
 | j,k::r=>gL n0 j (aC obs k) (ob.getD k [])::dY n0 ob obs (j+1) r
theorem fS {n0:Nat} {ob:Hs} {obs:List AObj}:∀ {ks:List Nat} {j i:Nat},(dY n0 ob obs j ks)[i]? =(ks[i]?).map fun k=>gL n0 (j+i) (aC obs k) (ob.getD k [])
 | [],j,i=>by simp [dY]
 | k::r,j,i=>by
  cases i with
  | zero=>simp [dY]
  | succ i=>simp only [dY,Fe,fS (ks:=r)];grind
theorem nL {n0:Nat} {ob:Hs} {obs:List AObj}:∀ {ks:List Nat} {j:Nat},(dY n0 ob obs j ks).length=ks.length
 | [],j=>rfl
 | k::r,j=>by simp [dY,nL (ks:=r)]
theorem J5 {n0:Nat} {a:List Nat} {obs:List AObj}:∀ {ks:List Nat} {j i:Nat},(pS n0 a obs j ks)[i]? =(ks[i]?).map fun k=>EH n0 a obs (j+i) (aC obs k)
 | [],j,i=>by simp [pS]
 | k::r,j,i=>by
  cases i with
  | zero=>simp [pS]
  | succ i=>simp only [pS,Fe,J5 (ks:=r)];grind
theorem mN {n0:Nat} {a:List Nat} {obs:List AObj}:∀ {ks:List Nat} {j:Nat},(pS n0 a obs j ks).length=ks.length
 | [],j=>rfl
 | k::r,j=>by simp [pS,mN (ks:=r)]
theorem SY {n0 j c g d:Nat} (h:gm n0 j c g=some d):(g=c/\d=(if j<n0 then (if c=0 then 0 else 1) else 0))\/(g≠c/\j<n0/\g=0/\d=0):=by
 unfold gm at h
 have f:∀ a b:Nat,Av a b=decide (a=b):=fun a b=>by
  by_cases e:a=b
  .simp_all
  .rw [DN e];simp [e]
 have hl:∀ a b:Nat,Eg a b=decide (a<b):=fun a b=>by
  by_cases e:a<b
  .simp_all
  .have:Eg a b=false:=by
    cases k:Eg a b with
    | false=>rfl
    | true=>simp_all;omega
   grind
 simp only [f,hl] at h
 by_cases h1:g=c
 .simp only [h1,decide_true,cond_true,Em] at h
  grind
 .simp only [h1,decide_false,cond_false] at h
  by_cases i:j<n0<;>by_cases h3:g=0<;>simp [i,h3] at h
  omega
theorem oP (n0 j g:Nat):gm n0 j g g=some (if j<n0 then (if g=0 then 0 else 1) else 0):=by
 unfold gm
 simp only [Nat.beq_eq_true_eq,Lv,cond_true,Em]
 by_cases a:j<n0
 .simp_all
 .have:Eg j n0=false:=by
   cases b:Eg j n0 with
   | false=>rfl
   | true=>simp_all;omega
  grind
section
variable {M:Imm} {ob:Hs} {obs:List AObj} {w:World}
theorem Mem.histLen (h:Mem M ob obs w) {k:Nat} {hs:List Value} (d:(aC obs k).owns=true) (f:ob[k]? =some hs):hs.length=eB (aC obs k)+1:=by
 obtain ⟨hs',e,a⟩:=h.obj k _ (dU d)
 rw [f] at e
 cases e
 cases c:aC obs k with
 | dead=>rw [c] at d;cases d
 | fcells cs=>rw [c] at d;cases d
 | frow g sz xs=>rw [c] at d;cases d
 | cells T cs=>rw [c] at a;obtain ⟨b,rfl,_⟩:=a;rfl
 | row g sz e xs=>rw [c] at a;exact a.1
 | tail g sz e=>rw [c] at a;exact a.1
 | mp i es=>rw [c] at a;obtain ⟨b,rfl,_⟩:=a;rfl
 | bun g I=>rw [c] at a;exact a.1
theorem vQ {n0 j g b:Nat} {o:AObj} {hs:List Value} (hl:hs.length=eB o+1) (d:gm n0 j (eB o) g=some b):(gL n0 j o hs)[b]? =hs[g]?:=by
 unfold gL
 rcases SY d with ⟨rfl,rfl⟩ | ⟨h1,e,rfl,rfl⟩
 .by_cases c:0<eB o
  .rw [if_pos c]
   by_cases a:j<n0
   .rw [if_pos a,if_pos a,if_neg o_,Ar q_]
    simp_all
   .rw [if_neg a,if_neg a]
    simp
  simp_all
 .have c:0<eB o:=o_
  simp_all
theorem xG {n0 j:Nat} {o:AObj} {hs:List Value} (hl:hs.length=eB o+1):(gL n0 j o hs).getLast? =hs.getLast?:=by
 unfold gL
 by_cases b:0<eB o
 .rw [if_pos b]
  rw [Lm,List.getLast?_drop,if_neg o_]
  have a:hs≠[]:=fun e=>by grind
  rw [Jq a]
  rfl
 grind
theorem qT {n0 j:Nat} {o:AObj} {hs:List Value} (hl:hs.length=eB o+1):(gL n0 j o hs).length=(if j<n0 then (if eB o=0 then 0 else 1) else 0)+1:=by
 unfold gL
 by_cases b:0<eB o
 .rw [if_pos b]
  by_cases a:j<n0
  .simp_all;omega
  .rw [if_neg a,if_neg a];simp;omega
 grind
theorem Mem.cutAt (h:Mem M ob obs w) {n0:Nat} {ks:List Nat} (l:iV ks obs=true) {k j g c:Nat} {v:Value} (hp:pos k 0 ks=some j) (i:gm n0 j (eB (aC obs k)) g=some c) (m:at' ob k g=some v):
  at' (dY n0 ob obs 0 ks) j c=some v:=by
 have f:=R6 hp
 have d:=(kR l).1 j k f
 have b:k<ob.length:=by rw [h.len];exact (Ac.1 (dU d)).1
 have a:ob[k]? =some ob[k]:=Ab b
 have hl:=h.histLen d a
 have e:(dY n0 ob obs 0 ks)[j]? =some (gL n0 j (aC obs k) ob[k]):=by
  rw [fS,f]
  simp [a]
 rw [cA e,vQ hl i]
 exact vU a m
theorem Mem.cvtV (h:Mem M ob obs w) {n0:Nat} {ks:List Nat} (r:iV ks obs=true):∀ (n:Nat) (v:Value) (a:AVal),Rep M ob v a->Rep M (dY n0 ob obs 0 ks) v (cvtV n0 ks (aC obs) n a):=by
 intro n
 induction n with
 | zero=>intro v a _;exact .undef v
 | succ n z=>
  intro v a m
  have B:∀ {n0 j c x:Nat},gm n0 j c 0=some x->x=0:=fun {n0 j c x} d=>by
   rcases SY d with ⟨e,rfl⟩ | ⟨_,_,_,rfl⟩
   .grind
   .rfl
  have tok:∀ {v:Value} {sz:Nat} {xs:List AVal} {t:Tk},Rep M ob v (.slice sz xs t)->Rep M (dY n0 ob obs 0 ks) v (AW.cvtV n0 ks (aC obs) (n+1) (.slice sz xs t)):=by
   intro v sz xs t m
   obtain ⟨H,D⟩:=m.untok
   have p:Rep M (dY n0 ob obs 0 ks) v (.slice sz xs .no):=H.slice_pure.pure
   cases t with
   | no=>exact p
   | nil=>
    cases ks with
    | nil=>exact p
    | cons k ks=>exact p.tok D
   | full=>exact p.tok D
   | own k g=>
    simp only [AW.cvtV]
    split
    .rename_i j hp
     split
     .rename_i s d
      exact p.tok (show at' _ _ _=_ from h.cutAt r hp d D)
     .exact p
    .exact p
  cases m with
  | undef v=>exact .undef v
  | bool b=>exact .bool b
  | int k n m=>exact .int k n m
  | str l hl=>exact .str l hl
  | agg vs as hl m=>
   obtain ⟨h1,A⟩:=bO (z) hl m
   exact .agg vs _ h1 A
  | tup vs as hl m=>
   obtain ⟨h1,A⟩:=bO (z) hl m
   exact .tup vs _ h1 A
  | ptr b o cs m=>exact .ptr b o cs m
  | ref k off b f=>
   simp only [AW.cvtV]
   split
   .rename_i j hp
    split
    .rename_i x d
     have:=B d
     subst this
     exact .ref j off b (h.cutAt r hp d f)
    .exact .undef _
   .exact (h.pureV 1 _ _ (.ref k off b f)).pure
  | eref k g i sz off b n c f=>exact .undef _
  | rowc k g c a n h hm=>exact .undef _
  | pre k g n c sz b len h q u hl hm=>exact .undef _
  | csl k off len sz b f hm=>
   simp only [AW.cvtV]
   split
   .rename_i j hp
    split
    .rename_i x d
     have:=B d
     subst this
     exact .csl j off len sz b (h.cutAt r hp d f) hm
    .exact .undef _
   .exact (h.pureV 1 _ _ (.csl k off len sz b f hm)).pure
  | row k g a n c f=>
   simp only [AW.cvtV]
   split
   .rename_i j hp
    split
    .rename_i s d
     exact .row j s a n c (h.cutAt r hp d f)
    .exact .undef _
   .exact (h.pureV 1 _ _ (.row k g a n c f)).pure
  | sub k g lo len sz b n c f hl u q hm=>
   simp only [AW.cvtV]
   split
   .rename_i j hp
    split
    .rename_i s d
     exact .sub j s lo len sz b n c (h.cutAt r hp d f) hl u q hm
    .exact .undef _
   .exact (h.pureV 1 _ _ (.sub k g lo len sz b n c f hl u q hm)).pure
  | sub0 k g lo sz a G n c f hl q=>
   simp only [AW.cvtV]
   split
   .rename_i j hp
    split
    .rename_i s d
     exact .sub0 j s lo sz a G n c (h.cutAt r hp d f) hl q
    .exact .undef _
   .exact (h.pureV 1 _ _ (.sub0 k g lo sz a G n c f hl q)).pure
  | mref k b f=>
   simp only [AW.cvtV]
   split
   .rename_i j hp
    split
    .rename_i x d
     have:=B d
     subst this
     exact .mref j b (h.cutAt r hp d f)
    .exact .undef _
   .exact .undef _
  | nilptr=>exact .nilptr
  | nilslice=>exact .nilslice
  | nilmap=>exact .nilmap
  | nilfunc=>exact .nilfunc
  | nilif=>exact .nilif
  | hsl a n c=>exact .hsl a n c
  | slnil sz t y=>exact tok (.slnil sz t y)
  | slemp sz t a cap y=>exact tok (.slemp sz t a cap y)
  | sl sz b o n cap xs t u q hm hz m y=>exact tok (.sl sz b o n cap xs t u q hm hz m y)
  | func fn I cs L N J q C F=>
   obtain ⟨h1,A⟩:=bO (z) J C
   obtain ⟨h3,K⟩:=bO (z) q F
   exact .func fn I cs _ _ h1 h3 A K
  | iface t v a m=>exact .iface t v _ (z v a m)
theorem Mem.cvt (h:Mem M ob obs w) {n0:Nat} {ks:List Nat} (K:iV ks obs=true):
  Mem M (dY n0 ob obs 0 ks) (fN n0 ks obs) w/\(∀ j b,aK (dY n0 ob obs 0 ks) (fN n0 ks obs) j b->∃ k,ks[j]? =some k/\aK ob obs k b)/\
   (∀ j k b,ks[j]? =some k->aK ob obs k b->aK (dY n0 ob obs 0 ks) (fN n0 ks obs) j b):=by
 obtain ⟨x,S⟩:=kR K
 have hist:∀ {j k:Nat},ks[j]? =some k->∃ hs,ob[k]? =some hs/\hs.length=eB (aC obs k)+1/\(dY n0 ob obs 0 ks)[j]? =some (gL n0 j (aC obs k) hs)/\(fN n0 ks obs)[j]? =some (EH n0 ks obs j (aC obs k))/\gR M ob w hs (aC obs k):=by
  intro j k a
  have H:=x j k a
  obtain ⟨hs,C,G⟩:=h.obj k _ (dU H)
  refine ⟨hs,C,h.histLen H C,?_,?_,G⟩
  .rw [fS,a];simp [C]
  .unfold fN;rw [J5,a];simp
 have f:∀ j o,(EH n0 ks obs j o).owns=o.owns:=fun j o=>by cases o<;>rfl
 have p:∀ j b,aK (dY n0 ob obs 0 ks) (fN n0 ks obs) j b->∃ k,ks[j]? =some k/\aK ob obs k b:=by
  rintro j b ⟨c,hs,B,L,e3,J⟩
  have a:∃ k,ks[j]? =some k:=by
   have:j<ks.length:=by
    have:=(Ac.1 B).1
    unfold fN at this
    rwa [mN] at this
   exact ⟨_,Ab this⟩
  obtain ⟨k,a⟩:=a
  obtain ⟨hs',A,t,y,u,_⟩:=hist a
  rw [u] at B
  rw [y] at e3
  cases B
  cases e3
  refine ⟨k,a,(cK (dU (x j k a)) A).2 ⟨by rw [<-f j];exact L,?_⟩⟩
  unfold blk at J⊢
  rwa [xG t] at J
 have D:∀ j k b,ks[j]? =some k->aK ob obs k b->aK (dY n0 ob obs 0 ks) (fN n0 ks obs) j b:=by
  intro j k b a n
  obtain ⟨hs',A,t,y,u,_⟩:=hist a
  have:=(cK (dU (x j k a)) A).1 n
  refine (cK u y).2 ⟨by rw [f];exact this.1,?_⟩
  unfold blk
  rw [xG t]
  exact this.2
 refine ⟨⟨h.imm,by unfold fN;rw [nL,mN],fun j c l=>?_,fun j b n=>?_,fun i j b n F=>?_⟩,p,D⟩
 .have a:∃ k,ks[j]? =some k:=by
   have:j<ks.length:=by
    have:=(Ac.1 l).1
    unfold fN at this
    rwa [mN] at this
   exact ⟨_,Ab this⟩
  obtain ⟨k,a⟩:=a
  obtain ⟨hs,A,t,y,u,m⟩:=hist a
  rw [u] at l
  cases l
  refine ⟨_,y,?_⟩
  have hl:=qT (n0:=n0) (j:=j) t
  have q:=oP n0 j (eB (aC obs k))
  have d:=vQ t q
  cases l:aC obs k with
  | dead=>exact trivial
  | fcells cs=>have:=x j k a;rw [l] at this;cases this
  | frow g sz xs=>have:=x j k a;rw [l] at this;cases this
  | cells T cs=>
   rw [l] at m
   obtain ⟨b,rfl,z,cv,s,r,P,R⟩:=m
   obtain ⟨N,Q⟩:=bO (h.cvtV (n0:=n0) K 4) r R
   exact ⟨b,rfl,z,cv,s,N,P,Q⟩
  | row g sz e xs=>
   rw [l] at m hl d
   obtain ⟨z,v,s,r⟩:=m
   simp only [EH,oP]
   exact ⟨hl,v,d.trans s,r⟩
  | tail g sz e=>
   rw [l] at m hl d
   obtain ⟨z,v,s,r⟩:=m
   simp only [EH,oP]
   exact ⟨hl,v,d.trans s,r⟩
  | mp V es=>
   rw [l] at m
   exact m
  | bun g I=>
   rw [l] at m hl d
   obtain ⟨z,v,s,r⟩:=m
   simp only [EH,oP]
   exact ⟨hl,v,d.trans s,r⟩
 .obtain ⟨k,_,n⟩:=p j b n
  exact h.lt k b n
 .obtain ⟨k,U,n⟩:=p i b n
  obtain ⟨O,a,F⟩:=p j b F
  have:=h.inj k O b n F
  subst this
  exact FC S U a
end
theorem Z7 (ks:List Nat):dO.olenN ks=ks.length:=by
 induction ks with
 | nil=>rfl
 | cons k r a=>simp [dO.olenN,a]
theorem fV {ks:List Nat} {base j k:Nat} (h:ks[j]? =some k):dO ks base j=k:=by simp [dO,mA,h]
theorem iP {ks:List Nat} {base j:Nat} (h:ks.length<=j):dO ks base j=base+(j-ks.length):=by
 simp [dO,mA,Bj h,Z7]
theorem aBu {ks:List Nat} {base:Nat} (f:ks.Nodup) (d:∀ (j k:Nat),ks[j]? =some k->k<base) {i j:Nat} (h:dO ks base i=dO ks base j):i=j:=by
 by_cases e:i<ks.length<;>by_cases c:j<ks.length
 .have b:=Ab e
  have a:=Ab c
  rw [fV b,fV a] at h
  rw [<-h] at a
  exact FC f b a
 .have b:=Ab e
  rw [fV b,iP o_] at h
  have:=d i _ b
  omega
 .have a:=Ab c
  rw [fV a,iP o_] at h
  have:=d j _ a
  omega
 .rw [iP o_,iP o_] at h
  omega
theorem V9 {ks:List Nat} {base:Nat} {obs:List AObj} (v:ks.Nodup) (p:∀ (j k:Nat),ks[j]? =some k->k<base):∀ (l:List AObj) (j:Nat) (a:List AObj),a.length=base+(j-ks.length)->
  (fI ks base obs j l a).length=base+(j+l.length-ks.length)/\(∀ (t:Nat) o,l[t]? =some o->(fI ks base obs j l a)[dO ks base (j+t)]? =some (oT ks base obs (j+t) o))/\
   ∀ i,(∀ t,t<l.length->dO ks base (j+t)≠i)->i<a.length->(fI ks base obs j l a)[i]? =a[i]?:=by
 intro l
 induction l with
 | nil=>intro j a hl;exact ⟨by simpa [fI] using hl,fun t o h=>by simp at h,fun i _ _=>rfl⟩
 | cons o r z=>
  intro j a hl
  simp only [fI]
  have d:(bH a (dO ks base j) (oT ks base obs j o)).length=base+(j+1-ks.length)/\(bH a (dO ks base j) (oT ks base obs j o))[dO ks base j]? =some (oT ks base obs j o)/\
    ∀ i,dO ks base j≠i->i<a.length->(bH a (dO ks base j) (oT ks base obs j o))[i]? =a[i]?:=by
   by_cases s:j<ks.length
   .have n:=Ab s
    have f:=p j _ n
    rw [fV n,fP _ o_]
    exact ⟨by simp;omega,Ba o_,fun i c _=>Bh c⟩
   .rw [iP o_,<-hl,LB]
    exact ⟨by simp;omega,by simp,fun i _ c=>Ag c⟩
  obtain ⟨u,q,x⟩:=d
  obtain ⟨y,w,m⟩:=z (j+1) _ u
  have f:dO ks base j<(bH a (dO ks base j) (oT ks base obs j o)).length:=(Ac.1 q).1
  refine ⟨by rw [y];simp;omega,fun t A g=>?_,fun i c b=>?_⟩
  .cases t with
   | zero=>
    simp at g
    subst g
    show (fI ks base obs (j+1) r (bH a (dO ks base j) (oT ks base obs j o)))[dO ks base j]? =some (oT ks base obs j o)
    rw [m _ (fun t _ e=>?_) f,q]
    have:=aBu v p e
    omega
   | succ t=>
    have:=w t A (by simpa using g)
    rwa [show j+1+t=j+(t+1) from by omega] at this
  .rw [m i (fun t g=>?_) (by
    by_cases s:j<ks.length
    .rw [u];rw [hl] at b;omega
    omega),x i (c 0 s_) b]
   have:=c (t+1) q_
   rwa [show j+(t+1)=j+1+t from by omega] at this
def iD (ks:List Nat) (ob a:Hs):Hs:=
 (Df ob.length).map (fun k=>match pos k 0 ks with | some j=>ob.getD k []++(a.getD j []).drop 1 | none=>ob.getD k [])++a.drop ks.length
theorem ZP {ks:List Nat} (a:ks.Nodup) {j k:Nat} (h:ks[j]? =some k):pos k 0 ks=some j:=by
 have b:∀ (ks:List Nat) (j i:Nat),ks.Nodup->ks[j]? =some k->pos k i ks=some (i+j):=by
  intro ks
  induction ks with
  | nil=>simp
  | cons x r d=>
   intro j i a h
   rw [Bp] at a
   simp only [pos]
   cases j with
   | zero=>simp at h;subst h;simp
   | succ j=>
    have c:r[j]? =some k:=by simpa using h
    have:¬ x=k:=fun e=>a.1 (e▸Az c)
    rw [DN this]
    simp only [cond_false]
    rw [d j (i+1) a.2 c]
    grind
 simpa using b ks j 0 a h
section
variable {M M':Imm} {ob obK':Hs} {obs obs':List AObj} {w w':World}
theorem Mem.embAt (h:Mem M ob obs w) {ks:List Nat} (x:iV ks obs=true) (p:dR (dY 0 ob obs 0 ks) obK') {j g:Nat} {v:Value} (d:at' obK' j g=some v):
  at' (iD ks ob obK') (dO ks obs.length j) (gX ks obs j g)=some v:=by
 obtain ⟨u,A⟩:=kR x
 have n:∃ hs,obK'[j]? =some hs/\hs[g]? =some v:=by
  unfold at' at d
  cases z:obK'[j]? with
  | none=>grind
  | some hs=>rw [z] at d;exact ⟨hs,rfl,d⟩
 obtain ⟨hs,o,e⟩:=n
 by_cases k:j<ks.length
 .have b:=Ab k
  have q:=u j _ b
  have c:ks[j]<ob.length:=by rw [h.len];exact (Ac.1 (dU q)).1
  have i:ob[ks[j]]? =some ob[ks[j]]:=Ab c
  have hl:=h.histLen q i
  have a:(dY 0 ob obs 0 ks)[j]? =some (gL 0 j (aC obs ks[j]) ob[ks[j]]):=by rw [fS,b];simp [i]
  obtain ⟨hs',r,t,s⟩:=p j _ a
  rw [o] at r
  cases r
  have y:(gL 0 j (aC obs ks[j]) ob[ks[j]]).length=1:=by rw [qT hl];simp
  have l:(gL 0 j (aC obs ks[j]) ob[ks[j]])[0]? =ob[ks[j]][eB (aC obs ks[j])]?:=vQ hl (by rw [oP];simp)
  have f:(iD ks ob obK')[ks[j]]? =some (ob[ks[j]]++hs.drop 1):=by
   unfold iD
   rw [Ag q_,Bd,Dr c]
   simp [ZP A b,i,o]
  rw [fV b,cA f]
  have m:gX ks obs j g=eB (aC obs ks[j])+g:=by simp [gX,mA,b]
  rw [m]
  cases g with
  | zero=>
   rw [Dy,Ag o_,<-l,<-e,<-s,Ag o_]
  | succ g=>
   rw [Ar o_,Ci,<-e]
   congr 1
   omega
 .have f:(iD ks ob obK')[obs.length+(j-ks.length)]? =some hs:=by
   unfold iD
   rw [Ar (by simp;rw [h.len];omega),Ci,<-o]
   congr 1
   simp [h.len]
   omega
  rw [iP o_,cA f]
  simpa [gX,mA,Bj (show ks.length<=j by omega)] using e
theorem MI {M':Imm} {obK' f:Hs} {ks:List Nat} {base:Nat} {obs:List AObj} (m:∀ {j g:Nat} {v:Value},at' obK' j g=some v->at' f (dO ks base j) (gX ks obs j g)=some v)
  (x:∀ {j:Nat} {v:Value},at' obK' j 0=some v->(∃ b,v= .pointer (some ⟨b,0,none⟩))\/(∃ b,v= .map (some b))->at' f (dO ks base j) 0=some v):
  ∀ (n:Nat) (v:Value) (a:AVal),Rep M' obK' v a->Rep M' f v (embV ks base obs n a):=by
 intro n
 induction n with
 | zero=>intro v a _;exact .undef v
 | succ n s=>
  intro v a d
  have tok:∀ {v:Value} {sz:Nat} {xs:List AVal} {t:Tk},Rep M' obK' v (.slice sz xs t)->Rep M' f v (AW.embV ks base obs (n+1) (.slice sz xs t)):=by
   intro v sz xs t d
   obtain ⟨C,z⟩:=d.untok
   have p:Rep M' f v (.slice sz xs .no):=C.slice_pure.pure
   cases t with
   | no=>exact p
   | nil=>exact p.tok z
   | full=>exact p.tok z
   | own k g=>exact p.tok (show at' _ _ _=_ from m z)
  cases d with
  | undef v=>exact .undef v
  | bool b=>exact .bool b
  | int k n d=>exact .int k n d
  | str l hl=>exact .str l hl
  | agg vs as hl d=>
   obtain ⟨h1,u⟩:=bO (s) hl d
   exact .agg vs _ h1 u
  | tup vs as hl d=>
   obtain ⟨h1,u⟩:=bO (s) hl d
   exact .tup vs _ h1 u
  | ptr b o cs d=>exact .ptr b o cs d
  | ref k off b e=>exact .ref _ off b (x e (.inl ⟨b,rfl⟩))
  | eref k g i sz off b n c e=>exact .undef _
  | rowc k g c a n h hm=>exact .undef _
  | pre k g n c sz b len h q w hl hm=>exact .undef _
  | csl k off len sz b e hm=>exact .csl _ off len sz b (x e (.inl ⟨b,rfl⟩)) hm
  | row k g a n c e=>exact .row _ _ a n c (m e)
  | sub k g lo len sz b n c e hl w q hm=>exact .sub _ _ lo len sz b n c (m e) hl w q hm
  | sub0 k g lo sz a B n c e hl q=>exact .sub0 _ _ lo sz a B n c (m e) hl q
  | mref k b e=>exact .mref _ b (x e (.inr ⟨b,rfl⟩))
  | nilptr=>exact .nilptr
  | nilslice=>exact .nilslice
  | nilmap=>exact .nilmap
  | nilfunc=>exact .nilfunc
  | nilif=>exact .nilif
  | hsl a n c=>exact .hsl a n c
  | slnil sz t r=>exact tok (.slnil sz t r)
  | slemp sz t a cap r=>exact tok (.slemp sz t a cap r)
  | sl sz b o n cap xs t w q hm hz d r=>exact tok (.sl sz b o n cap xs t w q hm hz d r)
  | func fn D cs H I F q y A=>
   obtain ⟨h1,u⟩:=bO (s) F y
   obtain ⟨h3,G⟩:=bO (s) q A
   exact .func fn D cs _ _ h1 h3 u G
  | iface t v a d=>exact .iface t v _ (s v a d)
theorem Mem.embV (h:Mem M ob obs w) {ks:List Nat} (A:iV ks obs=true) (m:dR (dY 0 ob obs 0 ks) obK') (F:(dY 0 ob obs 0 ks).length=ks.length):∀ (n:Nat) (v:Value) (a:AVal),Rep M' obK' v a->
  Rep M' (iD ks ob obK') v (embV ks obs.length obs n a):=by
 have G:∀ {j:Nat} {v:Value},at' obK' j 0=some v->(∃ b,v= .pointer (some ⟨b,0,none⟩))\/(∃ b,v= .map (some b))->at' (iD ks ob obK') (dO ks obs.length j) 0=some v:=by
  intro j v r hs
  have:=h.embAt A m r
  by_cases y:j<ks.length
  .have s:=Ab y
   have o:eB (aC obs ks[j])=0:=by
    have C:=(kR A).1 j _ s
    obtain ⟨hs',D,d⟩:=h.obj _ _ (dU C)
    have f:(dY 0 ob obs 0 ks)[j]? =some (gL 0 j (aC obs ks[j]) hs'):=by rw [fS,s];simp [D]
    have hl:=h.histLen C D
    have z:(gL 0 j (aC obs ks[j]) hs')[0]? =hs'[eB (aC obs ks[j])]?:=vQ hl (by rw [oP];simp)
    have c:at' (dY 0 ob obs 0 ks) j 0=some v:=by
     have J:(gL 0 j (aC obs ks[j]) hs').length=1:=by rw [qT hl];simp
     have t:=Ab (l:=gL 0 j (aC obs ks[j]) hs') (i:=0) o_
     generalize (gL 0 j (aC obs ks[j]) hs')[0]=u at t
     have:=m.at (ob:=dY 0 ob obs 0 ks) (k:=j) (g:=0) (v:=u) (by rw [cA f];exact t)
     rw [r] at this
     cases this
     rw [cA f];exact t
    rw [cA f,z] at c
    cases o:aC obs ks[j] with
    | row g sz e xs=>
     rw [o] at d c
     obtain ⟨_,H,p,cv,x,_⟩:=d
     simp only [eB] at c
     rw [p] at c
     cases c
     rcases dB x with ⟨q,_⟩ | ⟨_,_,q,_⟩<;>rcases hs with ⟨b,hs⟩ | ⟨b,hs⟩<;>(rw [q] at hs;cases hs)
    | tail g sz e=>
     rw [o] at d c
     obtain ⟨_,H,p,K,cv,x,_⟩:=d
     simp only [eB] at c
     rw [p] at c
     cases c
     rcases dB x with ⟨q,_⟩ | ⟨_,_,q,_⟩<;>rcases hs with ⟨b,hs⟩ | ⟨b,hs⟩<;>(grind)
    | bun g I=>
     rw [o] at d c
     obtain ⟨_,bs,p,_⟩:=d
     simp only [eB] at c
     rw [p] at c
     cases c
     rcases hs with ⟨b,hs⟩ | ⟨b,hs⟩<;>cases hs
    | _=>rfl
   have B:gX ks obs j 0=0:=by simp [gX,mA,s,o]
   grind
  .have B:gX ks obs j 0=0:=by simp [gX,mA,Bj (show ks.length<=j by omega)]
   grind
 exact MI (fun r=>h.embAt A m r) G
theorem Mem.emb (h:Mem M ob obs w) {ks:List Nat} (hk:iV ks obs=true) (s:Ext M (dY 0 ob obs 0 ks) (fN 0 ks obs) w M' obK' obs' w') (h':Mem M' obK' obs' w'):
  Mem M' (iD ks ob obK') (fI ks obs.length obs 0 obs' obs) w'/\Ext M ob obs w M' (iD ks ob obK') (fI ks obs.length obs 0 obs' obs) w'/\∀ (i:Nat) hs,obs[i]? =some .dead->ob[i]? =some hs->(fI ks obs.length obs 0 obs' obs)[i]? =some .dead/\(iD ks ob obK')[i]? =some hs:=by
 obtain ⟨k1,k2⟩:=kR hk
 obtain ⟨c1,c2,c3⟩:=h.cvt (n0:=0) hk
 have hks:∀ (j k:Nat),ks[j]? =some k->k<obs.length:=fun j k u=>(Ac.1 (dU (k1 j k u))).1
 have hcl:(dY 0 ob obs 0 ks).length=ks.length:=nL
 have hm:ks.length<=obs'.length:=by
  rcases Gf ks.length with h0 | h0
  .omega
  .have:(dY 0 ob obs 0 ks)[ks.length-1]? =some (dY 0 ob obs 0 ks)[ks.length-1]:=Ab o_
   obtain ⟨hs',e,_⟩:=s.hs _ _ this
   have:=(Ac.1 e).1
   rw [h'.len] at this
   omega
 obtain ⟨s1,s2,s3⟩:=V9 (base:=obs.length) (obs:=obs) k2 hks obs' 0 obs s_
 simp only [Cb] at s1 s2 s3
 have hEl:(iD ks ob obK').length=obs.length+(obs'.length-ks.length):=by
  unfold iD
  simp [h.len,h'.len]
 -- the objects oU the call:by number
 have cls:∀ {i:Nat},i<(fI ks obs.length obs 0 obs' obs).length->(∃ j,j<obs'.length/\i=dO ks obs.length j)\/(i<obs.length/\(∀ j,j<obs'.length->dO ks obs.length j≠i)):=by
  intro i C
  rw [s1] at C
  by_cases O:i<obs.length
  .by_cases hin:∃ j,j<obs'.length/\i=dO ks obs.length j
   .exact .inl hin
   .exact .inr ⟨O,fun j u e=>hin ⟨j,u,e.symm⟩⟩
  .refine .inl ⟨ks.length+(i-obs.length),by omega,?_⟩
   rw [iP o_]
   omega
 have N:∀ {i:Nat},i<obs.length->(∀ j,j<obs'.length->dO ks obs.length j≠i)->(fI ks obs.length obs 0 obs' obs)[i]? =obs[i]?/\(iD ks ob obK')[i]? =ob[i]?:=by
  intro i C d
  refine ⟨s3 i d C,?_⟩
  have R:i<ob.length:=by rw [h.len];exact C
  have hp:pos i 0 ks=none:=by
   cases hq:pos i 0 ks with
   | none=>rfl
   | some j=>
    have:=R6 hq
    exact absurd (fV this) (d j (by have:=(Ac.1 this).1;omega))
  unfold iD
  rw [Ag q_,Bd,Dr R]
  simp [hp,Ab R]
 have Z:∀ {j:Nat} {o:AObj},obs'[j]? =some o->∃ hs hs',obK'[j]? =some hs/\gR M' obK' w' hs o/\(fI ks obs.length obs 0 obs' obs)[dO ks obs.length j]? =some (oT ks obs.length obs j o)/\(iD ks ob obK')[dO ks obs.length j]? =some hs'/\
   hs'.length=(match ks[j]? with | some k=>eB (aC obs k) | none=>0)+hs.length/\(o.owns=true->blk hs'=blk hs)/\(∀ (g:Nat) v,hs[g]? =some v->hs'[gX ks obs j g]? =some v):=by
  intro j o u
  obtain ⟨hs,D,m⟩:=h'.obj j o u
  have hat:∀ (g:Nat) v,hs[g]? =some v->at' (iD ks ob obK') (dO ks obs.length j) (gX ks obs j g)=some v:=fun g v hg=>h.embAt hk s.hs (by rw [cA D];exact hg)
  by_cases O:j<ks.length
  .have X:=Ab O
   have Y:=k1 j _ X
   have hko:ks[j]<ob.length:=by rw [h.len];exact (Ac.1 (dU Y)).1
   have hhb:ob[ks[j]]? =some ob[ks[j]]:=Ab hko
   have hl:=h.histLen Y hhb
   have Q:(dY 0 ob obs 0 ks)[j]? =some (gL 0 j (aC obs ks[j]) ob[ks[j]]):=by rw [fS,X];simp [hhb]
   obtain ⟨G,K,t,F⟩:=s.hs j _ Q
   rw [D] at K
   cases K
   have hc1:(gL 0 j (aC obs ks[j]) ob[ks[j]]).length=1:=by rw [qT hl];simp
   have hpos:1<=hs.length:=by rw [<-F];simp;omega
   have eE:(iD ks ob obK')[ks[j]]? =some (ob[ks[j]]++hs.drop 1):=by
    unfold iD
    rw [Ag q_,Bd,Dr hko]
    simp [ZP k2 X,hhb,D]
   refine ⟨hs,_,D,m,s2 j o u,by rw [fV X];exact eE,by rw [X];simp;omega,fun _=>?_,fun g v hg=>?_⟩
   .unfold blk
    rw [Lm]
    by_cases h2:1<hs.length
    .rw [List.getLast?_drop,if_neg o_]
     have d:hs≠[]:=fun e=>by subst e;simp at hpos
     rw [Jq d]
     rfl
    .have:hs.drop 1=[]:=Ae o_
     rw [this]
     simp only [List.getLast?_nil,Option.none_or]
     have h1l:hs.length=1:=o_
     have ht:t=[]:=by
      have:=congrArg Lk F
      simp at this
      exact Al o_
     subst ht
     rw [Bm] at F
     rw [<-F,xG hl]
   .have:=hat g v hg
    rw [fV X,cA eE] at this
    exact this
  .have hjl:j<obK'.length:=(Ac.1 D).1
   have eE:(iD ks ob obK')[obs.length+(j-ks.length)]? =some hs:=by
    unfold iD
    rw [Ar (by simp;rw [h.len];omega),Ci,<-D]
    congr 1
    simp [h.len]
    omega
   refine ⟨hs,hs,D,m,s2 j o u,by rw [iP o_];exact eE,by rw [Bj o_];simp,fun _=>rfl,fun g v hg=>?_⟩
   simpa [gX,mA,Bj (show ks.length<=j by omega)] using hg
 have ownsE:∀ j o,(oT ks obs.length obs j o).owns=o.owns:=fun j o=>by cases o<;>rfl
 have l:∀ {i b:Nat},aK (iD ks ob obK') (fI ks obs.length obs 0 obs' obs) i b->(∃ j,i=dO ks obs.length j/\aK obK' obs' j b)\/((∀ j,j<obs'.length->dO ks obs.length j≠i)/\aK ob obs i b):=by
  rintro i b ⟨c,hs,K,F,e3,e4⟩
  rcases cls (Ac.1 K).1 with ⟨j,u,rfl⟩ | ⟨C,d⟩
  .obtain ⟨H,G,g1,B,g3,g4,_,g5,_⟩:=Z (Ab u)
   rw [g3] at K
   rw [g4] at e3
   cases K
   cases e3
   rw [ownsE] at F
   exact .inl ⟨j,rfl,(cK (Ab u) g1).2 ⟨F,by rw [<-g5 F];exact e4⟩⟩
  .obtain ⟨o1,o2⟩:=N C d
   rw [o1] at K
   rw [o2] at e3
   exact .inr ⟨d,c,hs,K,F,e3,e4⟩
 have hle:dR ob (iD ks ob obK'):=by
  intro i hs C
  have R:=(Ac.1 C).1
  cases hq:pos i 0 ks with
  | none=>
   refine ⟨hs,?_,Dd _⟩
   unfold iD
   rw [Ag q_,Bd,Dr R]
   simp [hq,C]
  | some j=>
   refine ⟨hs++(obK'.getD j []).drop 1,?_,⟨_,rfl⟩⟩
   unfold iD
   rw [Ag q_,Bd,Dr R]
   simp [hq,C]
 have f:∀ {i b:Nat},(∀ j,j<obs'.length->dO ks obs.length j≠i)->aK ob obs i b->(∀ j,¬ aK (dY 0 ob obs 0 ks) (fN 0 ks obs) j b)/\b<w.heap.size:=by
  intro i b d n
  refine ⟨fun j u=>?_,h.lt i b n⟩
  obtain ⟨k,hk',ha'⟩:=c2 j b u
  have:=h.inj i k b n ha'
  subst this
  exact d j (by have:=(Ac.1 hk').1;omega) (fV hk')
 refine ⟨⟨h'.imm,by rw [hEl,s1],fun i c r=>?_,fun i b n=>?_,fun i i' b n hb=>?_⟩,⟨s.imm,fun b o y hy=>?_,hle,s.os,s.tape,s.output,s.size,fun b hb hn=>s.keep b hb fun j u=>?_,fun i b n=>?_⟩,fun i hs hd D=>?_⟩
 .rcases cls (Ac.1 r).1 with ⟨j,u,rfl⟩ | ⟨C,d⟩
  .obtain ⟨H,G,g1,B,g3,g4,g5,g6,g7⟩:=Z (Ab u)
   rw [g3] at r
   cases r
   refine ⟨G,g4,?_⟩
   have one0:∀ {p:Value},H=[p]->H.length=1->(match ks[j]? with | some k=>eB (aC obs k) | none=>0)=0\/True:=fun _ _=>.inr trivial
   have single:∀ {b:Nat} {p:Value},H=[p]->((∃ q,p= .pointer (some ⟨q,0,none⟩))\/(∃ q,p= .map (some q)))->G=[p]:=by
    intro b p e hp
    have hcur:(match ks[j]? with | some k=>eB (aC obs k) | none=>0)=0:=by
     cases hq:ks[j]? with
     | none=>rfl
     | some k=>
      have L:=g7 0 p (by rw [e];rfl)
      have Y:=k1 j k hq
      obtain ⟨S,hhk,m⟩:=h.obj k _ (dU Y)
      have hl:=h.histLen Y hhk
      have Q:(dY 0 ob obs 0 ks)[j]? =some (gL 0 j (aC obs k) S):=by rw [fS,hq];simp [hhk]
      obtain ⟨hs3,K,t,F⟩:=s.hs j _ Q
      rw [g1] at K
      cases K
      have hc1:(gL 0 j (aC obs k) S).length=1:=by rw [qT hl];simp
      have hc0:(gL 0 j (aC obs k) S)[0]? =S[eB (aC obs k)]?:=vQ hl (by rw [oP];simp)
      have a:S[eB (aC obs k)]? =some p:=by
       rw [<-hc0]
       have:H[0]? =some p:=by rw [e];rfl
       rw [<-F,Ag o_] at this
       exact this
      show eB (aC obs k)=0
      cases r:aC obs k with
      | row g sz e xs=>
       rw [r] at m a
       obtain ⟨_,v',z,cv,J,_⟩:=m
       simp only [eB] at a
       rw [z] at a
       cases a
       rcases dB J with ⟨q,_⟩ | ⟨_,_,q,_⟩<;>rcases hp with ⟨b,hp⟩ | ⟨b,hp⟩<;>(rw [q] at hp;cases hp)
      | tail g sz e=>
       rw [r] at m a
       obtain ⟨_,v',z,n',cv,J,_⟩:=m
       simp only [eB] at a
       rw [z] at a
       cases a
       rcases dB J with ⟨q,_⟩ | ⟨_,_,q,_⟩<;>rcases hp with ⟨b,hp⟩ | ⟨b,hp⟩<;>(rw [q] at hp;cases hp)
      | bun g I=>
       rw [r] at m a
       obtain ⟨_,bs,z,_⟩:=m
       simp only [eB] at a
       rw [z] at a
       cases a
       rcases hp with ⟨b,hp⟩ | ⟨b,hp⟩<;>cases hp
      | _=>rfl
    rw [hcur,e] at g5
    have L:=g7 0 p (by rw [e];rfl)
    have hG:gX ks obs j 0=0:=by
     unfold gX
     rw [mA]
     omega
    rw [hG] at L
    match G,g5,L with
    | [x],_,L=>simp at L;rw [L]
   have A:∀ g,H.length=g+1->G.length=gX ks obs j g+1:=fun g hg=>by
    rw [g5,hg]
    unfold gX
    rw [mA]
    cases ks[j]? with
    | none=>simp
    | some k=>simp;omega
   cases r:obs'[j] with
   | dead=>exact trivial
   | cells T cs=>
    rw [r] at B
    obtain ⟨b,rfl,V,cv,z,J,a4,a5⟩:=B
    obtain ⟨m1,m2⟩:=bO (h.embV (M':=M') hk s.hs hcl 4) J a5
    exact ⟨b,single (b:=b) rfl (.inl ⟨b,rfl⟩),V,cv,z,m1,a4,m2⟩
   | fcells cs=>
    rw [r] at B
    obtain ⟨b,rfl,V⟩:=B
    exact ⟨b,single (b:=b) rfl (.inl ⟨b,rfl⟩),V⟩
   | row g sz e xs=>
    rw [r] at B
    obtain ⟨V,v,z,J⟩:=B
    exact ⟨A g V,v,g7 g v z,J⟩
   | frow g sz xs=>
    rw [r] at B
    obtain ⟨v,z,J⟩:=B
    exact ⟨v,g7 g v z,J⟩
   | tail g sz e=>
    rw [r] at B
    obtain ⟨V,v,z,J⟩:=B
    exact ⟨A g V,v,g7 g v z,J⟩
   | mp ag es=>
    rw [r] at B
    obtain ⟨b,rfl,V,z⟩:=B
    exact ⟨b,single (b:=b) rfl (.inr ⟨b,rfl⟩),V,z⟩
   | bun g I=>
    rw [r] at B
    obtain ⟨V,v,z,J⟩:=B
    exact ⟨A g V,v,g7 g _ z,J⟩
  .obtain ⟨o1,o2⟩:=N C d
   rw [o1] at r
   obtain ⟨hs,D,m⟩:=h.obj i c r
   refine ⟨hs,by rw [o2];exact D,m.mono s.imm hle (fun b p1 p2 o hno y hy=>?_) (fun b c' p1 p2 hc'=>?_)⟩
   .obtain ⟨n1,n2⟩:=f d ((cK r D).2 ⟨p1,p2⟩)
    rcases s.new b o y hy with q | q | ⟨j,q⟩
    .exact hno y q
    .omega
    .exact n1 j q
   .obtain ⟨n1,n2⟩:=f d ((cK r D).2 ⟨p1,p2⟩)
    rw [s.keep b n2 n1]
    exact hc'
 .rcases l n with ⟨j,_,n⟩ | ⟨_,n⟩
  .exact h'.lt j b n
  .exact Dz (h.lt i b n) s.size
 .have U:∀ {i j:Nat},(∀ j,j<obs'.length->dO ks obs.length j≠i)->aK ob obs i b->aK obK' obs' j b->False:=by
   intro i j d n hb
   obtain ⟨n1,n2⟩:=f d n
   rcases s.fresh j b hb with ⟨j',q⟩ | q
   .exact n1 j' q
   .omega
  rcases l n with ⟨j,K,P⟩ | ⟨d,P⟩<;>rcases l hb with ⟨j',F,W⟩ | ⟨hne',W⟩
  .rw [K,F,h'.inj j j' b P W]
  .exact (U hne' W P).elim
  .exact (U d P W).elim
  .exact h.inj i i' b P W
 .rcases s.new b o y hy with q | q | ⟨j,q⟩
  .exact .inl q
  .omega
  .obtain ⟨k,_,n⟩:=c2 j b q
   exact .inr (.inr ⟨k,n⟩)
 .obtain ⟨k,_,n⟩:=c2 j b u
  exact hn k n
 .rcases l n with ⟨j,_,n⟩ | ⟨_,n⟩
  .rcases s.fresh j b n with ⟨j',q⟩ | q
   .obtain ⟨k,_,ha'⟩:=c2 j' b q
    exact .inl ⟨k,ha'⟩
   omega
  .exact .inl ⟨i,n⟩
 .have C:=(Ac.1 hd).1
  have d:∀ j,j<obs'.length->dO ks obs.length j≠i:=by
   intro j u e
   by_cases O:j<ks.length
   .have X:=Ab O
    rw [fV X] at e
    have Y:=k1 j _ X
    rw [e,eV hd] at Y
    cases Y
   .rw [iP o_] at e
    omega
  obtain ⟨o1,o2⟩:=N C d
  rw [o1,o2]
  exact ⟨hd,D⟩
end
section
variable {M M':Imm} {ob ob':Hs} {obs obs1 obs1' obs':List AObj} {w w':World}
def QP (obs1 obs:List AObj):Prop:=obs1.length=obs.length/\∀ (k:Nat),obs1[k]? =obs[k]?\/obs1[k]? =some .dead
theorem QP.alive (h:QP obs1 obs) {k b:Nat} (f:aK ob obs1 k b):aK ob obs k b:=by
 obtain ⟨c,hs,a,d,e3,e⟩:=f
 rcases h.2 k with q | q
 .rw [q] at a;exact ⟨c,hs,a,d,e3,e⟩
 .rw [q] at a;cases a;cases d
theorem Mem.weak (h:Mem M ob obs w) (a:QP obs1 obs):Mem M ob obs1 w:=by
 refine ⟨h.imm,h.len.trans a.1.symm,fun k c d=>?_,fun k b f=>h.lt k b (a.alive f),fun i j b f g=>h.inj i j b (a.alive f) (a.alive g)⟩
 rcases a.2 k with q | q
 .rw [q] at d;exact h.obj k c d
 .rw [q] at d
  cases d
  have e:k<ob.length:=by rw [h.len,<-a.1];grind
  exact ⟨ob[k],Ab e,trivial⟩
theorem Mem.revive (h:Mem M ob obs w) (x:QP obs1 obs) (d:Ext M ob obs1 w M' ob' obs1' w') (hs:cD ob obs1 ob' obs1') (A:Mem M' ob' obs1' w') (hl:obs'.length=obs1'.length)
  (B:∀ (k:Nat) c,obs'[k]? =some c->obs1'[k]? =some c\/(obs1[k]? =some .dead/\(∃ hs,ob[k]? =some hs/\hs≠[])/\obs[k]? =some c)):
  Mem M' ob' obs' w'/\Ext M ob obs w M' ob' obs' w'/\cD ob obs ob' obs':=by
 have a:∀ {k b:Nat},aK ob' obs' k b->aK ob' obs1' k b\/(obs1[k]? =some .dead/\aK ob obs k b):=by
  rintro k b ⟨c,hs',s,C,e3,O⟩
  rcases B k c s with q | ⟨n,⟨g,m,D⟩,z⟩
  .exact .inl ⟨c,hs',q,C,e3,O⟩
  .have:=((hs k g n m).1 D).2
   rw [e3] at this
   cases this
   exact .inr ⟨n,c,hs',z,C,m,O⟩
 have f:∀ {k b:Nat},obs1[k]? =some .dead->aK ob obs k b->∀ j,¬ aK ob obs1 j b:=by
  intro k b V e j F
  have:=h.inj k j b e (x.alive F)
  subst this
  obtain ⟨c,_,s,C,_⟩:=F
  rw [V] at s
  cases s
  cases C
 refine ⟨⟨A.imm,A.len.trans hl.symm,fun k c W=>?_,fun k b e=>?_,fun i j b e I=>?_⟩,⟨d.imm,fun b o y H=>?_,d.hs,d.os,d.tape,d.output,d.size,fun b I R=>d.keep b I fun j F=>R j (x.alive F),fun k b e=>?_⟩,fun k hs' h1 P=>⟨fun h3=>?_,fun h3 Y=>?_⟩⟩
 .rcases B k c W with q | ⟨n,⟨g,m,D⟩,z⟩
  .exact A.obj k c q
  .obtain ⟨X,s,L⟩:=h.obj k c z
   rw [m] at s
   cases s
   refine ⟨g,((hs k g n m).1 D).2,L.mono d.imm d.hs (fun b N J o K y H=>?_) (fun b Z N J G=>?_)⟩
   .have e:aK ob obs k b:=(cK z m).2 ⟨N,J⟩
    rcases d.new b o y H with q | q | ⟨j,q⟩
    .exact K y q
    .have:=h.lt k b e;omega
    .exact f n e j q
   .have e:aK ob obs k b:=(cK z m).2 ⟨N,J⟩
    rw [d.keep b (h.lt k b e) (f n e)]
    exact G
 .rcases a e with q | ⟨_,q⟩
  .exact A.lt k b q
  .exact Dz (h.lt k b q) d.size
 .have l:∀ {i j:Nat},aK ob' obs1' i b->obs1[j]? =some .dead->aK ob obs j b->False:=fun {i j} p q r=>by
   rcases d.fresh i b p with ⟨S,t⟩ | t
   .exact f q r S t
   .have:=h.lt j b r;omega
  rcases a e with q | ⟨n,q⟩<;>rcases a I with r | ⟨U,r⟩
  .exact A.inj i j b q r
  .exact (l q U r).elim
  .exact (l r n q).elim
  .exact h.inj i j b q r
 .rcases d.new b o y H with q | q | ⟨j,q⟩
  .exact .inl q
  .omega
  .exact .inr (.inr ⟨j,x.alive q⟩)
 .rcases a e with q | ⟨_,q⟩
  .rcases d.fresh k b q with ⟨j,t⟩ | t
   .exact .inl ⟨j,x.alive t⟩
   omega
  .exact .inl ⟨k,q⟩
 .have v:obs1[k]? =some .dead:=by
   rcases x.2 k with q | q
   .grind
   .exact q
  obtain ⟨Q,T⟩:=(hs k hs' v P).1 h3
  refine ⟨?_,T⟩
  have u:k<obs'.length:=by rw [hl];exact (Ac.1 Q).1
  rcases B k _ (Ab u) with q | ⟨_,_,q⟩
  .rw [Q] at q;rw [Ab u,<-q]
  .rw [h1] at q;rw [Ab u,<-q]
 .have v:obs1[k]? =some .dead:=by
   rcases x.2 k with q | q
   .grind
   .exact q
  rcases B k _ Y with q | ⟨_,⟨g,m,D⟩,_⟩
  .exact (hs k hs' v P).2 h3 q
  grind
end
def aG (P:Program) (t:TypeId):Bool:=match P.underlying t with | some (.struct _) | some (.array _ _)=>true | _=>false
def nT (P:Program):List Field->List (Nat×Nat×Bool)->Prop
 | [],[]=>True
 | f::fs,(off,sz,ag)::r=>f.offset=off/\(P.info? f.type).map (·.size)=some sz/\(P.underlying f.type).isSome=true/\aG P f.type=ag/\nT P fs r
 | _,_=>False
def tQ (P:Program) (t:Nat) (a:Bool) (size:Nat):TK->Prop
 | .int k=>P.underlying t=some (.int k)/\a=false/\size=1
 | .bool=>P.underlying t=some .bool/\a=false/\size=1
 | .str=>P.underlying t=some .string/\a=false/\size=1
 | .strct h=>(∃ c,P.underlying t=some (.struct c)/\nT P c.toList h)/\a=true
 | .arr n b j=>(∃ e,P.underlying t=some (.array n e)/\(P.info? e).map (·.size)=some b/\(P.underlying e).isSome=true/\aG P e=j)/\a=true
 | .slc e b g=>(P.underlying t=some (.slice e)/\∃ i z,P.info? e=some i/\i.size=b/\i.bytes=g/\i.zero=some z/\z.cells.size=b/\z.cells.toList.all (·.oneCell')=true)/\a=false/\size=1
 | .ptr e=>P.underlying t=some (.pointer e)/\a=false/\size=1
 | .iface=>(∃ f,P.underlying t=some (.interface f))/\a=false/\size=1
 | .mp k e=>P.underlying t=some (.map k e)/\a=false/\size=1
 | .other=>(∃ d,P.underlying t=some d/\(∀ f,d≠ .interface f))/\aG P t=a
structure TIOK (P:Program) (t:Nat) (ti:TI):Prop where
 info:∃ i z,P.info? t=some i/\i.size=ti.size/\i.zero=some z/\z.cells.size=ti.size/\Rep (fun _ _ _=>False) [] z ti.zero/\z.cells.toList.all (·.oneCell')=true/\ti.zero≠ .undef
 kind:tQ P t ti.agg ti.size ti.kind
def aHv (P:Program) (t n:Nat):Prop:=∀ (w:World) (x y:Operand) (xs ys:List AVal) (vs us:List Value) (c:Bool),ceq xs ys=some c->xs.length=n->
 bT (fun _ _ _=>False) [] vs xs->bT (fun _ _ _=>False) [] us ys->
 (∀ op,(eqGuard op t x y (.agg vs.toArray) (.agg us.toArray)).run P w= .ok () w)/\(Op.equal t (.agg vs.toArray) (.agg us.toArray)).run P w= .ok c w
def JP (P:Program) (t n:Nat):Prop:=∀ (w:World) (a b:List Int),a.length=n->b.length=n->(Op.equal t (eX true a) (eX true b)).run P w= .ok (decide (a=b)) w/\∀ c,(Gw c 10000 t (eX true a)).run P w= .ok () w
def QU (P:Program) (t n:Nat):Prop:=aHv P t n/\JP P t n
structure EnvOK (E:Env):Prop where
 mix:E.P.follows .mixedOrders=true
 tab:∀ t ti,cU E.T t=some ti->TIOK E.P t ti
 mth:∀ t name g,aAr E.mt t name=some g->∀ v w,(method (E.P.types.size+Made.depth) t v name).run E.P w= .ok (g,v) w
 fl:∀ t,0<yY E.fl t->QU E.P t (yY E.fl t)
theorem tQ.isAgg {P:Program} {t:Nat} {g:Bool} {size:Nat} {k:TK} (h:tQ P t g size k):(P.underlying t).isSome=true/\aG P t=g:=by
 cases k with
 | strct j=>obtain ⟨⟨f,h1,_⟩,c⟩:=h;simp [aG,h1,c]
 | arr n i m=>obtain ⟨⟨f,h1,_⟩,c⟩:=h;simp [aG,h1,c]
 | slc e a b=>obtain ⟨⟨h1,_⟩,c,_⟩:=h;simp [aG,h1,c]
 | iface=>obtain ⟨⟨l,h1⟩,c,_⟩:=h;simp [aG,h1,c]
 | other=>obtain ⟨⟨d,h1,_⟩,c⟩:=h;grind
 | _=>obtain ⟨h1,c,_⟩:=h;simp [aG,h1,c]
theorem wH {P:Program} {t:Nat} (h:(P.underlying t).isSome=true) (w:World):(isAgg t).run P w= .ok (aG P t) w:=by
 obtain ⟨d,a⟩:=Db.1 h
 unfold isAgg
 simp only [Bc,run_underlying a,Au,aG,a]
 cases d<;>rfl
theorem run_sizeOf {P:Program} {t:Nat} {s:Nat} (h:(P.info? t).map (·.size)=some s) (w:World):(sizeOf t).run P w= .ok s w:=by
 obtain ⟨i,a,rfl⟩:=Cq.1 h
 simp [sizeOf,typeInfo,a]
theorem TIOK.size? {P:Program} {t:Nat} {a:TI} (h:TIOK P t a):(P.info? t).map (·.size)=some a.size:=by
 obtain ⟨i,z,c,b,_⟩:=h.info
 grind
theorem nT.get {P:Program}:∀ {a:List Field} {b:List (Nat×Nat×Bool)},nT P a b->∀ {i:Nat} {off sz:Nat} {c:Bool},nth b i=some (off,sz,c)->
  ∃ f,a[i]? =some f/\f.offset=off/\(P.info? f.type).map (·.size)=some sz/\(P.underlying f.type).isSome=true/\aG P f.type=c
 | [],[],_,i,_,_,_,hn=>by cases i<;>cases hn
 | [],_::_,h,_,_,_,_,_=>h.elim
 | _::_,[],h,_,_,_,_,_=>h.elim
 | f::a,(off',sz',ag')::b,h,i,off,sz,c,hn=>by
  obtain ⟨h1,j,h3,e,d⟩:=h
  cases i with
  | zero=>cases hn;exact ⟨f,rfl,h1,j,h3,e⟩
  | succ i=>
   obtain ⟨g,k,r⟩:=d.get (show nth b i=_ from hn)
   exact ⟨g,by simp;omega,r⟩
theorem iS {M:Imm} {ob:Hs} {z:Value} {a:AVal} (h:Rep (fun _ _ _=>False) [] z a):Rep M ob z a:=h.mono (fun _ _ _ h=>h.elim) (L4 ob)
def Sd (VS:AVal->List AObj->Prop) (CS:Fn->List AVal->Prop) (PS:AVal->Prop) (obs:List AObj) (base:Nat):OR->Prop
 | .no=>True
 | .val v=>VS v obs
 | .mkf fn d cs=>VS (.func fn d cs) obs
 | .need p r=>p->Sd VS CS PS obs base r
 | .alt p v w=>(p->VS v obs)/\VS w obs
 | .idx n f=>∀ i:Nat,n=(i:Int)->Sd VS CS PS obs base (f i)
 | .elem xs i f=>∀ x,xs[i]? =some x->Sd VS CS PS obs base (f x)
 | .byte l i=>∀ c,l[i]? =some c->VS (.int .u8 (c.toNat:Int)) obs
 | .text xs=>∀ l:List UInt8,xs=l.map ub->(l.length:Int)<=9223372036854775807->VS (.str l) obs
 | .find es key f=>Sd VS CS PS obs base (f (aZ es key))
 | .born x v=>VS v (bH obs base x)
 | .upd k x v=>VS v (bH obs k x)
 | .nilq xs a=>∃ b:Bool,(b=true->xs=[])/\VS (.bool (if a then !b else b)) obs
 | .call f args=>CS f args
 | .pan v=>PS v
theorem Sd.mono {VS g:AVal->List AObj->Prop} {CS e:Fn->List AVal->Prop} {PS d:AVal->Prop} {obs:List AObj} {base:Nat} (h1:∀ v o,VS v o->g v o) (j:∀ f a,CS f a->e f a) (h3:∀ v,PS v->d v):
  ∀ {r:OR},Sd VS CS PS obs base r->Sd g e d obs base r
 | .no,_=>trivial
 | .val v,h=>h1 _ _ h
 | .mkf fn fs cs,h=>h1 _ _ h
 | .need p r,h=>fun hp=>Sd.mono h1 j h3 (h hp)
 | .alt p v w,h=>⟨fun hp=>h1 _ _ (h.1 hp),h1 _ _ h.2⟩
 | .idx n f,h=>fun i t=>Sd.mono h1 j h3 (h i t)
 | .elem xs i f,h=>fun x q=>Sd.mono h1 j h3 (h x q)
 | .byte l i,h=>fun c s=>h1 _ _ (h c s)
 | .text xs,h=>fun l hl m=>h1 _ _ (h l hl m)
 | .find es key f,h=>Sd.mono (r:=f (aZ es key)) h1 j h3 h
 | .born x v,h=>h1 _ _ h
 | .upd k x v,h=>h1 _ _ h
 | .nilq xs neg,⟨b,m,h⟩=>⟨b,m,h1 _ _ h⟩
 | .call f args,h=>j _ _ h
 | .pan v,h=>h3 _ h
def PV (P:Program) (M:Imm) (ob:Hs) (w:World) (s:Sem Value) (obs:List AObj) (v:AVal) (o:List AObj):Prop:=o=obs/\∃ u,s.run P w= .ok u w/\Rep M ob u v
abbrev PS0 (P:Program) (M:Imm) (ob:Hs) (w:World) (s:Sem Value) (obs:List AObj) (base:Nat) (r:OR):Prop:=Sd (PV P M ob w s obs) (fun _ _=>False) (fun _=>False) obs base r
theorem PS0.bind {P:Program} {M:Imm} {ob:Hs} {w:World} {s:Sem Value} {obs:List AObj} {base:Nat} {f:AVal->AVal} (a:∀ v u,Rep M ob u v->Rep M ob u (f v)):∀ {r:OR},PS0 P M ob w s obs base r->PS0 P M ob w s obs base (r.bind fun v=>.val (f v))
 | .no,_=>trivial
 | .val v,⟨h1,u,h2,h3⟩=>⟨h1,u,h2,a _ _ h3⟩
 | .mkf fn fs cs,_=>trivial
 | .need p r,h=>fun hp=>PS0.bind a (r:=r) (h hp)
 | .alt p v w,_=>trivial
 | .idx n f',h=>fun i b=>PS0.bind a (r:=f' i) (h i b)
 | .elem xs i f',h=>fun x c=>PS0.bind a (r:=f' x) (h x c)
 | .byte l i,_=>trivial
 | .text xs,_=>trivial
 | .find es key f',_=>trivial
 | .born x v,_=>trivial
 | .upd k x v,_=>trivial
 | .nilq xs neg,_=>trivial
 | .call f' args,_=>trivial
 | .pan v,_=>trivial
structure VS1 (P:Program) (ρv:Operand->Value) (op:Op) (ty:TypeId) (M:Imm) (ob:Hs) (obs:List AObj) (w:World) (v:AVal) (obs':List AObj) (u:Value) (w':World) (M':Imm) (ob':Hs):Prop where
 run:∀ d pos after g,(execOp ρv ⟨d,op,ty,pos,after,g⟩).run P w= .ok (.value u) w'\/((execOp ρv ⟨d,op,ty,pos,after,g⟩).run P w= .ok .skip w'/\u=undef)
 ext:Ext M ob obs w M' ob' obs' w'
 mem:Mem M' ob' obs' w'
 still:cD ob obs ob' obs'
 rep:Rep M' ob' u v
def VS (P:Program) (ρv:Operand->Value) (op:Op) (ty:TypeId) (M:Imm) (ob:Hs) (obs:List AObj) (w:World) (v:AVal) (obs':List AObj):Prop:=∃ u w' M' ob',VS1 P ρv op ty M ob obs w v obs' u w' M' ob'
def CS (P:Program) (ρv:Operand->Value) (op:Op) (ty:TypeId) (M:Imm) (ob:Hs) (w:World) (f:Fn) (args:List AVal):Prop:=
 ∃ b:List Value,bT M ob b args/\∀ d pos a g,(execOp ρv ⟨d,op,ty,pos,a,g⟩).run P w=(DK f b.toArray).run P w
def PS (P:Program) (ρv:Operand->Value) (op:Op) (ty:TypeId) (M:Imm) (w:World) (v:AVal):Prop:=
 ∃ u,(∀ d pos a g,(execOp ρv ⟨d,op,ty,pos,a,g⟩).run P w= .halt (.panic u) w)/\Rep M [] u v
abbrev bR (P:Program) (ρv:Operand->Value) (op:Op) (ty:TypeId) (M:Imm) (ob:Hs) (obs:List AObj) (w:World) (base:Nat) (r:OR):Prop:=
 Sd (VS P ρv op ty M ob obs w) (CS P ρv op ty M ob w) (PS P ρv op ty M w) obs base r
theorem bR.pv {P:Program} {ρv:Operand->Value} {op:Op} {ty:TypeId} {M:Imm} {ob:Hs} {obs:List AObj} {w:World} {base:Nat} {r:OR} {s:Sem Value} (hm:Mem M ob obs w)
  (b:∀ d pos a g,execOp ρv ⟨d,op,ty,pos,a,g⟩=(s >>= fun v=>Pure.pure (.value v))) (h:PS0 P M ob w s obs base r):bR P ρv op ty M ob obs w base r:=
 Sd.mono (fun v o ⟨h1,u,c,h3⟩=>⟨u,w,M,ob,fun d pos a g=>.inl (by simp_all),h1▸Ext.refl _ _ _ _,h1▸hm,h1▸cD.refl _ _,h3⟩) (fun _ _ h=>h.elim) (fun _ h=>h.elim) h
theorem VQ {k:IntKind} {n:Int} (h:aDU k n=true):inR k n:=by
 unfold aDU at h
 split at h
 .rename_i m
  have:=Cl h
  rw [show Int.ofNat m=(m:Int) from rfl]
  constructor
  .cases k<;>simp only [bW]<;>omega
  .cases k<;>simp only [aFd,bI] at * <;>omega
 .rename_i m
  have:m<aAE k:=by simp_all
  constructor
  .cases k<;>simp only [aAE,bW] at * <;>omega
  .cases k<;>simp only [bI]<;>omega
theorem aDJ (l:List UInt8):aAz l=l.length:=by
 induction l with
 | nil=>rfl
 | cons c r a=>simp [aAz,a]
theorem iT {k:IntKind} {n:Int} (h:inR k n):k.wrap n=n:=by
 unfold inR bW bI at h
 unfold IntKind.wrap
 cases k<;>simp only [IntKind.bits,IntKind.signed] at * <;>simp at * <;>omega
theorem kT (k:IntKind) (n:Int):inR k (k.wrap n):=by
 unfold inR bW bI IntKind.wrap
 cases k<;>simp only [IntKind.bits,IntKind.signed]<;>simp<;>(try split)<;>omega
theorem aAK {k:IntKind} {x y:Int} (h:inR k x):inR k (x.tmod y):=by
 obtain ⟨h1,g⟩:=h
 have f:bW k<=0:=by cases k<;>decide
 have c:0<=bI k:=by cases k<;>decide
 by_cases d:0<=x
 .have a:=Int.tmod_nonneg y d
  have b:x.tmod y<=x:=by
   have:=Int.natAbs_tmod x y
   have:=Nat.mod_le x.natAbs y.natAbs
   omega
  exact ⟨by omega,by omega⟩
 .have e:x.tmod y= -((-x).tmod y):=by simp
  have a:=Int.tmod_nonneg y (show 0<= -x by omega)
  have b:(-x).tmod y<= -x:=by
   have:=Int.natAbs_tmod (-x) y
   have:=Nat.mod_le (-x).natAbs y.natAbs
   omega
  exact ⟨by omega,by omega⟩
theorem aAL {k:IntKind} {x:Int} (p:Nat) (h:inR k x):inR k (x.fdiv (2 ^ p)):=by
 obtain ⟨h1,d⟩:=h
 have c:bW k<=0:=by cases k<;>decide
 have b:0<=bI k:=by cases k<;>decide
 have hp:(0:Int)<2 ^ p:=Int.pow_pos d_
 have a:(1:Int)<=2 ^ p:=o_
 rw [Kd _ o_]
 generalize (2:Int) ^ p=q at hp a
 constructor
 .refine Int.le_ediv_of_mul_le hp ?_
  have:bW k*q<=bW k*1:=Int.mul_le_mul_of_nonpos_left c a
  omega
 .refine Int.ediv_le_of_le_mul hp ?_
  have:bI k*1<=bI k*q:=Int.mul_le_mul_of_nonneg_left a b
  omega
theorem uX {k a:IntKind} (h:aAH k a=true):k=a:=by cases k<;>cases a<;>first | rfl | cases h
theorem sdc {VS:AVal->List AObj->Prop} {CS:Fn->List AVal->Prop} {PS:AVal->Prop} {obs:List AObj} {base:Nat} {b:Bool} {r:OR} (h:b=true->Sd VS CS PS obs base r):Sd VS CS PS obs base (bif b then r else .no):=by
 cases b with
 | true=>exact h rfl
 | false=>exact trivial
section
variable {P:Program} {E:Env} {M:Imm} {ob:Hs} {obs:List AObj} {w:World} {base:Nat}
theorem nK (v:Value):Rep M ob v (aEB v):=by
 unfold aEB
 split
 .exact .bool _
 .rename_i k n
  cases h:aDU k n with
  | true=>exact .int _ _ (VQ h)
  | false=>exact .undef _
 .rename_i s
  cases h:Ff (aAz s.data.toList) 1000000 with
  | true=>
   have:=Cl h
   rw [aDJ] at this
   obtain ⟨⟨l⟩⟩:=s
   exact .str l (by grind)
  | false=>exact .undef _
 .exact .nilslice
 .exact .nilptr
 .exact .nilmap
 .exact .nilfunc
 .exact .nilif
 .exact .undef _
theorem DD {op:BinOp} {t:TypeId} {k:IntKind} {x y n:Int} (a:(binOp op t (.int k x) (.int k y)).run P w= .ok (.int k (k.wrap n)) w):
  PS0 P M ob w (binOp op t (.int k x) (.int k y)) obs base (DE k n):=
 ⟨fun hp=>⟨rfl,_,by rw [a,iT hp],.int _ _ hp⟩,rfl,_,a,.int _ _ (kT _ _)⟩
theorem aG1 {op:BinOp} {t:TypeId} {k:IntKind} {x y:Int} (h:inR k x):PS0 P M ob w (binOp op t (.int k x) (.int k y)) obs base (aIt op k x y):=by
 have c:∀ {op:BinOp} {n:Int},(binOp op t (.int k x) (.int k y)).run P w= .ok (.int k n) w->inR k n->PS0 P M ob w (binOp op t (.int k x) (.int k y)) obs base (.val (.int k n)):=fun h1 g=>⟨rfl,_,h1,.int _ _ g⟩
 have a:∀ {op:BinOp} {b:Bool},(binOp op t (.int k x) (.int k y)).run P w= .ok (.bool b) w->PS0 P M ob w (binOp op t (.int k x) (.int k y)) obs base (.val (.bool b)):=fun h1=>⟨rfl,_,h1,.bool _⟩
 have d:∀ op,inR k (iX op k x y):=fun op=>by
  unfold iX
  cases op<;>exact kT _ _
 cases op with
 | add=>exact DD (by rw [binOp_add];rfl)
 | sub=>exact DD (by rw [binOp_sub];rfl)
 | mul=>exact DD (by rw [binOp_mul];rfl)
 | quo=>
  intro f
  have e:(binOp .quo t (.int k x) (.int k y)).run P w= .ok (.int k (k.wrap (x.tdiv y))) w:=by rw [binOp_quo];simp only [Op.intDiv,if_neg f];rfl
  exact ⟨fun hp=>⟨rfl,_,by rw [e,iT hp],.int _ _ hp⟩,rfl,_,e,.int _ _ (kT _ _)⟩
 | rem=>
  intro f
  exact c (by rw [binOp_rem];simp only [Op.intDiv,if_neg f];rfl) (aAK h)
 | and=>exact c (by rw [binOp_and];rfl) (d .and)
 | or=>exact c (by rw [binOp_or];rfl) (d .or)
 | xor=>exact c (by rw [binOp_xor];rfl) (d .xor)
 | andNot=>exact c (by rw [binOp_andNot];rfl) (d .andNot)
 | shl=>exact trivial
 | shr=>exact trivial
 | eql=>exact a (by rw [binOp_eql];rfl)
 | neq=>exact a (by rw [binOp_neq];rfl)
 | lss=>exact a (by rw [binOp_lss];rfl)
 | leq=>exact a (by rw [binOp_leq];rfl)
 | gtr=>exact a (by rw [binOp_gtr];rfl)
 | geq=>exact a (by rw [binOp_geq];rfl)
theorem dJ (l:List UInt8):(⟨l.toArray⟩:ByteArray).toList=l:=by simp
theorem O6 (l:List UInt8) (i j:Nat):(⟨l.toArray⟩:ByteArray).extract i j=⟨((l.take j).drop i).toArray⟩:=by
 have h:=Lib.extract_data ⟨l.toArray⟩ i j
 have:((⟨l.toArray⟩:ByteArray).extract i j).data=((l.take j).drop i).toArray:=by
  rw [<-Array.toList_inj,h]
  simp [List.drop_take]
 cases a:(⟨l.toArray⟩:ByteArray).extract i j with
 | mk d=>grind
theorem vS {M':Imm} {ob':Hs}:∀ {xs ys:List AVal} {c:Bool},ceq xs ys=some c->∀ {vs:List Value},bT M ob vs xs->bT M' ob' vs xs:=by
 intro xs
 induction xs with
 | nil=>intro ys c _ vs h;exact ⟨h.1,fun i v a _ j=>by simp at j⟩
 | cons x xs l=>
  intro ys c h vs d
  cases ys with
  | nil=>cases x<;>cases h
  | cons y ys=>
   cases x with
   | int k a=>
    cases y with
    | int n b=>
     simp only [ceq] at h
     obtain ⟨_,p⟩:=dZ h
     cases m:ceq xs ys with
     | none=>grind
     | some o=>
      match vs,d with
      | [],d=>exact absurd d.1 s_
      | v::vs,d=>
       have g:=l m (vs:=vs) ⟨by simpa using d.1,fun i u b f e=>d.2 (i+1) u b (by grind) q_⟩
       refine ⟨by simpa using d.1,fun i u b f e=>?_⟩
       cases i with
       | zero=>
        simp at f e
        subst f e
        have:=(d.2 0 v _ rfl rfl).int_inv
        rw [this.1]
        exact .int _ _ this.2
       | succ i=>exact g.2 i u b (by simpa using f) (by simpa using e)
    | _=>cases h
   | _=>cases h
theorem MX:∀ {xs ys:List AVal} {c:Bool},ceq xs ys=some c->∃ f,ceq ys xs=some f:=by
 intro xs
 induction xs with
 | nil=>intro ys c h;cases ys with
  | nil=>grind
  | cons y ys=>cases h
 | cons x xs g=>
  intro ys c h
  cases ys with
  | nil=>cases x<;>cases h
  | cons y ys=>
   cases x with
   | int k a=>
    cases y with
    | int l b=>
     simp only [ceq] at h
     obtain ⟨e,m⟩:=dZ h
     have:=uX e
     subst this
     cases j:ceq xs ys with
     | none=>grind
     | some f=>
      obtain ⟨d,i⟩:=g j
      exact ⟨(b==a)&&d,by simp only [ceq,e,cond_true,i]⟩
    | _=>cases h
   | _=>cases h
theorem wI {P:Program} {w:World} {t e:TypeId} {a:Addr} {j:TypeInfo} (d:Nat) (h:P.underlying t=some (.pointer e)) (b:P.info? e=some j):(Op.equalIn (d+1) t (.pointer (some a)) (.pointer (some a))).run P w= .ok true w:=by
 by_cases hz:j.size=0<;>simp [Op.equalIn,run_underlying h,sizeOf,typeInfo,b,hz,run_sameAddr_same]
theorem aGH {P:Program} {t e:TypeId} (h:P.underlying t=some (.pointer e)):P.underlying t=some (.pointer (P.pointee t)):=by
 simp [Program.pointee,h]
abbrev JB (op:BinOp) (t:TypeId) (x y:Operand) (vx vy:Value):Sem Value:=eqGuard op t x y vx vy >>= fun _=>binOp op t vx vy
theorem aE7 {s s':Sem Value} (h:∀ {r},s'.run P w=r->s.run P w=r) {r:OR} (k:PS0 P M ob w s' obs base r):PS0 P M ob w s obs base r:=
 Sd.mono (fun _ _ ⟨h1,u,a,h3⟩=>⟨h1,u,h a,h3⟩) (fun _ _ h=>h) (fun _ h=>h) k
theorem Z1 {op:BinOp} {t:TypeId} {x y:Operand} {b a:Value} {c:Bool} (h1:∀ op,eqGuard op t x y b a=Pure.pure ()) (d:∀ op,op= .eql\/op= .neq->binOp op t b a=(Op.equal t b a >>= fun r=>Pure.pure (.bool (if op= .eql then r else !r))))
  (h3:(Op.equal t b a).run P w= .ok c w):PS0 P M ob w (JB op t x y b a) obs base (uP op c):=by
 unfold uP
 split
 .refine ⟨rfl,.bool c,?_,.bool c⟩
  simp only [JB,h1,d _ (.inl rfl)]
  simp only [Bc,Bv,Au,h3,if_true]
 .refine ⟨rfl,.bool (!c),?_,.bool _⟩
  simp only [JB,h1,d _ (.inr rfl)]
  simp only [Bc,Bv,Au,h3]
  rfl
 .exact trivial
theorem aGi {op:BinOp} {t:TypeId} {x y:Operand} {b a:Value} {c:Bool} {xs:List AVal} (h1:∀ op,eqGuard op t x y b a=Pure.pure ()) (e:∀ op,op= .eql\/op= .neq->binOp op t b a=(Op.equal t b a >>= fun r=>Pure.pure (.bool (if op= .eql then r else !r))))
  (h3:(Op.equal t b a).run P w= .ok c w) (d:c=true->xs=[]):PS0 P M ob w (JB op t x y b a) obs base (aGj op xs):=by
 have:=Z1 (M:=M) (ob:=ob) (obs:=obs) (base:=base) (op:=op) h1 e h3
 unfold aGj
 unfold uP at this
 split
 .exact ⟨c,d,this⟩
 .exact ⟨c,d,this⟩
 .exact trivial
theorem pZ {P:Program} (w:World) (d:Nat) (t u:TypeId) (x:Value) (h:P.underlying t=some (.interface (P.methodsAt t))):(Op.equalIn (d+1) t .nilIface (.iface u x)).run P w= .ok false w:=by
 simp [Op.equalIn,run_underlying h]
theorem aG4 (hE:EnvOK E) {og:Nat->AObj} {op:BinOp} {t:TypeId} {x y:Operand} {u v:Value} {a b:AVal} (m:Rep M ob u a) (l:Rep M ob v b):PS0 E.P M ob w (JB op t x y u v) obs base (aG5 E og (isC x||isC y) op t a b):=by
 unfold aG5
 split
 .rename_i k x' J F
  obtain ⟨rfl,G⟩:=m.int_inv
  obtain ⟨rfl,Y⟩:=l.int_inv
  have z:∀ op,(eqGuard op t x y (.int k x') (.int J F))=Pure.pure ():=fun op=>by cases op<;>rfl
  refine aE7 (s':=binOp op t (.int k x') (.int J F)) (fun h=>by grind) ?_
  split
  .intro R
   have e:(binOp .shl t (.int k x') (.int J F)).run E.P w= .ok (.int k (k.wrap (x'*2 ^ min F.toNat k.bits))) w:=by
    rw [binOp_shl]
    simp only [Op.shift]
    simp;omega
   refine ⟨fun ⟨K,Q⟩=>⟨rfl,_,?_,.int _ _ Q⟩,rfl,_,e,.int _ _ (kT _ _)⟩
   rw [e,Ic K,iT Q]
  .rintro ⟨R,K⟩
   refine ⟨rfl,_,?_,.int _ _ (aAL _ G)⟩
   rw [binOp_shr]
   simp only [Op.shift]
   rw [if_neg o_,Ic K]
   rfl
  .refine sdc fun f=>?_
   have:=uX f
   subst this
   exact aG1 G
 .rename_i l1 l2
  obtain ⟨rfl,G⟩:=m.str_inv
  obtain ⟨rfl,Y⟩:=l.str_inv
  have z:∀ op,(eqGuard op t x y (.string ⟨l1.toArray⟩) (.string ⟨l2.toArray⟩))=Pure.pure ():=fun op=>by cases op<;>rfl
  refine aE7 (s':=binOp op t (.string ⟨l1.toArray⟩) (.string ⟨l2.toArray⟩)) (fun h=>by grind) ?_
  split
  .intro R
   refine ⟨rfl,.string ⟨(l1++l2).toArray⟩,?_,.str _ (by grind)⟩
   rw [binOp_string_add]
   rw [run_string_add_sum w _ _ (by rw [oJ,oJ];omega),ByteArray.mk_append_mk]
  .exact ⟨rfl,_,by rw [binOp_string_eql,dJ,dJ];rfl,.bool _⟩
  .exact ⟨rfl,_,by rw [binOp_string_neq,dJ,dJ];rfl,.bool _⟩
  .exact ⟨rfl,_,by rw [binOp_string_lss,dJ,dJ];rfl,.bool _⟩
  .exact ⟨rfl,_,by rw [binOp_string_leq,dJ,dJ];rfl,.bool _⟩
  .exact ⟨rfl,_,by rw [binOp_string_gtr,dJ,dJ];rfl,.bool _⟩
  .exact ⟨rfl,_,by rw [binOp_string_geq,dJ,dJ];rfl,.bool _⟩
  .exact trivial
 .rename_i xs ys
  refine sdc fun z=>?_
  obtain ⟨hf1,N⟩:=aQ z
  have T:0<yY E.fl t:=by simp_all
  have s:=aB N
  rw [vR] at s
  obtain ⟨vs,rfl,hl,O⟩:=m.agg_inv
  obtain ⟨us,rfl,A,D⟩:=l.agg_inv
  split
  .rename_i c i
   obtain ⟨X,q⟩:=MX i
   obtain ⟨L,H⟩:=(hE.fl t T).1 w x y _ _ vs us c i s (vS i ⟨hl,O⟩) (vS q ⟨A,D⟩)
   refine ⟨rfl,.bool c,?_,.bool c⟩
   simp only [JB,Bc,L,Au,binOp,H,Bv]
  .rename_i c i
   obtain ⟨X,q⟩:=MX i
   obtain ⟨L,H⟩:=(hE.fl t T).1 w x y _ _ vs us c i s (vS i ⟨hl,O⟩) (vS q ⟨A,D⟩)
   refine ⟨rfl,.bool (!c),?_,.bool _⟩
   simp only [JB,Bc,L,Au,binOp,H,Bv]
  .exact trivial
 .split
  .exact trivial
  .rename_i n hT
   have d:=(hE.tab t n hT).kind
   have two:∀ {u v:Value},(∀ op,eqGuard op t x y u v=Pure.pure ())->(∀ op,op= .eql\/op= .neq->binOp op t u v=(Op.equal t u v >>= fun r=>Pure.pure (.bool (if op= .eql then r else !r))))->
     ∀ {c:Bool},(Op.equal t u v).run E.P w= .ok c w->PS0 E.P M ob w (JB op t x y u v) obs base (uP op c):=fun h1 C _ h3=>Z1 h1 C h3
   split
   .have f:=‹n.kind=TK.bool›
    rw [f] at d
    obtain rfl:=m.bool_inv
    obtain rfl:=l.bool_inv
    exact two (fun op=>by cases op<;>rfl) (fun op g=>by rcases g with rfl | rfl<;>rfl) (run_equal_bool w t _ _ d.1)
   .have f:=‹n.kind=TK.slc _ _ _›
    rw [f] at d
    have:=m.untok.2
    obtain rfl:u= .slice none 0 0:=this
    cases l
    exact two (fun op=>by cases op<;>rfl) (fun op g=>by rcases g with rfl | rfl<;>rfl) (run_equal_slice_nil w t _ none 0 0 d.1.1)
   .have f:=‹n.kind=TK.slc _ _ _›
    rw [f] at d
    cases m
    cases l
    exact two (fun op=>by cases op<;>rfl) (fun op g=>by rcases g with rfl | rfl<;>rfl) (run_equal_slice_nil w t _ none 0 0 d.1.1)
   .have f:=‹n.kind=TK.slc _ _ _›
    rw [f] at d
    obtain ⟨a,c,rfl,U,_⟩:=m.slice_inv
    cases l
    exact aGi (fun op=>by cases op<;>rfl) (fun op g=>by rcases g with rfl | rfl<;>rfl) (run_equal_slice_nil w t _ a _ c d.1.1) (fun e=>(U (by cases a<;>first | rfl | cases e)).1)
   .have f:=‹n.kind=TK.ptr _›
    rw [f] at d
    cases m
    cases l
    exact two (fun op=>by cases op<;>rfl) (fun op g=>by rcases g with rfl | rfl<;>rfl) (run_equal_pointer_nil w t _ (aGH d.1))
   .have f:=‹n.kind=TK.ptr _›
    rw [f] at d
    obtain ⟨b,rfl,_⟩:=m.ref_inv
    cases l
    exact two (fun op=>by cases op<;>rfl) (fun op g=>by rcases g with rfl | rfl<;>rfl) (run_equal_pointer_nil w t _ (aGH d.1))
   .have f:=‹n.kind=TK.ptr _›
    rw [f] at d
    obtain ⟨b,o,rfl,_⟩:=m.ptr_inv
    cases l
    exact two (fun op=>by cases op<;>rfl) (fun op g=>by rcases g with rfl | rfl<;>rfl) (run_equal_pointer_nil w t _ (aGH d.1))
   .have f:=‹n.kind=TK.ptr _›
    rw [f] at d
    split
    .rename_i V I
     refine sdc fun z=>?_
     obtain ⟨h1,C⟩:=aQ z
     have h1:=aB h1
     have C:=aB C
     subst h1 C
     obtain ⟨b,rfl,W⟩:=m.ref_inv
     obtain ⟨b',rfl,B⟩:=l.ref_inv
     rw [W] at B
     cases B
     obtain ⟨j,Z,_⟩:=Cq.1 (hE.tab _ V I).size?
     refine two (fun op=>by cases op<;>rfl) (fun op g=>by rcases g with rfl | rfl<;>rfl) (c:=true) ?_
     exact wI 9999 d.1 Z
    .exact trivial
   .have f:=‹n.kind=TK.iface›
    rw [f] at d
    obtain ⟨S,p⟩:=d.1
    cases m
    cases l
    refine sdc fun hl=>two (fun op=>?_) (fun op g=>by rcases g with rfl | rfl<;>rfl) (run_equal_nil_nil w t (by simp only [Program.methodsAt,p]))
    cases op<;>first | rfl | (cases x<;>first | rfl | (cases y<;>first | rfl | cases hl))
   .have f:=‹n.kind=TK.iface›
    rw [f] at d
    obtain ⟨S,p⟩:=d.1
    cases m
    cases l
    exact two (fun op=>by cases op<;>rfl) (fun op g=>by rcases g with rfl | rfl<;>rfl) (run_equal_held_nil w t _ _ (by simp only [Program.methodsAt,p]))
   .have f:=‹n.kind=TK.iface›
    rw [f] at d
    obtain ⟨S,p⟩:=d.1
    cases m
    cases l
    exact two (fun op=>by cases op<;>rfl) (fun op g=>by rcases g with rfl | rfl<;>rfl) (pZ w 9999 t _ _ (by simp only [Program.methodsAt,p]))
   .exact trivial
end
end Go.AW
