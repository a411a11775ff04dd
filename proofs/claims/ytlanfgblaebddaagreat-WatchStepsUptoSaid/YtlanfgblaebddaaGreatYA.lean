/-
  Rounds and commands, as walks; the laws.
-/
import Derived.Test.YtlanfgblaebddaaGreatRows
import Derived.Test.YtlanfgblaebddaaGreatDA
set_option linter.all false
set_option maxHeartbeats 1000000
open And renaming intro->Aa
open Bool renaming and_eq_true->Af,not_eq_true'->Co,or_eq_true->Fy,true_and->Bw
open Decidable renaming not_not->Dm
open Iff renaming rfl->Ly
open Int renaming le_refl->Di,le_trans->Es,mul_nonneg->Hj,toNat_natCast->Dl
open List renaming Nodup->Fp,all_eq_true->Bq,any_eq_true->Ef,append_assoc->Ay,append_nil->Bm,cons_append->Jd,count_eq_zero->Ie,count_pos_iff->Kc,drop->Fv,drop_eq_getElem_cons->Ad,drop_eq_nil_of_le->Ae,drop_zero->Bx,eraseIdx_append_of_length_le->Ij,filter_cons_of_neg->Fa,filter_cons_of_pos->Fb,filter_sublist->Gb,foldl_append->Iv,foldl_cons->Aq,getElem?_eq_getElem->Ab,getElem?_eq_some_iff->Ac,getElem_mem->Bg,length->Lk,length_append->Bo,length_cons->Bt,length_eq_zero_iff->Cf,length_filter_le->Dp,length_map->Ck,length_singleton->Lj,map_append->Bl,map_cons->Bk,map_map->Cu,mem_append->Ao,mem_append_left->Cd,mem_append_right->Cp,mem_cons->Aj,mem_cons_of_mem->Ap,mem_cons_self->Ak,mem_filter->Dt,mem_map->Bb,mem_map_of_mem->Ca,mem_range->Fu,mem_reverse->Gu,mem_singleton->Bf,nodup_append->Ax,nodup_cons->Bp,nodup_nil->Gh,pairwise_cons->Bn,pairwise_map->Bu,pairwise_singleton->Dq,perm_append_comm->Gj,perm_middle->Fo,replicate->Ah,take->En,take_append_drop->De
open List.Pairwise renaming imp->Ko,nil->Cz
open List.Perm renaming append_left->Fm,append_right->Fh,refl->Ep,trans->Lf
open List.Sublist renaming refl->Hg
open List.cons renaming inj->Hb
open Nat renaming le_add_right->La,le_refl->Bi,le_trans->Cm,mul_le_mul->Gg,not_lt_zero->Jy,sub_self->Ip,zero_add->Cb
open Option renaming isSome_iff_exists->Db
namespace Go.Proofs.YtlanfgblaebddaaGreat
open Go Go.AW Go.Proofs
set_option maxRecDepth 10000
theorem zqya0 {P:Prop} (h:P:=by
 refine ⟨[],[0,1],⟨rfl,rfl⟩,rfl,rfl⟩):P:=h
theorem zqya1 {P:Prop} (h:P:=by
 unfold cG
 rw [B]
 unfold EM
 dsimp only
 rw [K]
 rfl):P:=h
structure StaSm' (s:Sta):Prop where
 ns:s.c.ns.length<=1048576
 hs:s.c.hs.length<=1048576
 pend:s.pend.length<=1048576
 run:Sm s.run
 hist:s.hist.length<=1048576
abbrev rdC (r:Rd) (run:AVal) (ge:Nat):List AVal:=[.slice 11 (nav r.s.c.ns) .no,.slice 6 (hav r.s.c.hs) .no,ii r.s.c.half,ii r.s.c.age,ii r.s.now,ii r.s.nxt,.slice 11 (pnv r.s.pend) .no,run,.slice 1 (fv r.s.hist) .no,.slice 3 (evv r.ev) (.own 1 ge),.bool r.head,ii r.start]
abbrev evT (g:Nat):AObj:=.tail g 3 46
def aAd (r:Rd) (e:Ev):Rd:=⟨r.s,r.ev++[e],r.head,r.start⟩
theorem qP {n a:Nat} (h:n<=1048576) (b:a<=1000):yX (n+1) a:=Aa (by simp only [maxLen];omega) (Cm (Gg (show n+1<=1048577 by omega) b) d_)
def cR (id:Int) (x:Rn):Bool:=x.g.id==id
theorem CY (p:Rn->Bool):∀ (l:List Rn) (i:Nat),bA p l i= -1\/((i:Int)<=bA p l i/\bA p l i<(i:Int)+l.length)
 | [],i=>.inl rfl
 | x::l,i=>by
  unfold bA
  by_cases h:p x=true
  .rw [if_pos h]
   right
   simp
   omega
  .rw [if_neg h]
   rcases CY p l (i+1) with a | a
   .exact .inl a
   .right
    simp
    omega
theorem BE (l:List Pn) (p:Pn):(oB l p).length=l.length+1:=by
 unfold oB
 rw [Bo,Bo,Lj]
 have:=congrArg Lk (De (Q2.putAt p.q (l.map Pn.q)) l)
 rw [Bo] at this
 omega
abbrev aE2:AObj:=.cells 30 [.slice 11 [] .nil,.slice 6 [] .nil,ii 0,ii 0,ii 0,ii 0,.slice 11 [] .nil,.slice 14 [] .nil,.slice 1 [] .nil]
theorem zX (run:List Rn):∀ (ids:List Int) (r:Rd),(ids.foldl (dM run) r).s.c=r.s.c/\(ids.foldl (dM run) r).s.now=r.s.now/\(ids.foldl (dM run) r).s.nxt=r.s.nxt/\(ids.foldl (dM run) r).s.hist=r.s.hist/\(ids.foldl (dM run) r).s.run=r.s.run/\(ids.foldl (dM run) r).head=r.head/\(ids.foldl (dM run) r).start=r.start/\(ids.foldl (dM run) r).s.pend.length=r.s.pend.length+ids.length/\(ids.foldl (dM run) r).ev.length=r.ev.length+ids.length
 | [],r=>⟨rfl,rfl,rfl,rfl,rfl,rfl,rfl,rfl,rfl⟩
 | id::ids,r=>by
  obtain ⟨a,b,c,d,e,f,g,h,i⟩:=zX run ids (dM run r id)
  have h1:(dM run r id).s.pend.length=r.s.pend.length+1:=BE _ _
  have j:(dM run r id).ev.length=r.ev.length+1:=by show (r.ev++[_]).length=_;simp
  rw [Aq]
  refine ⟨a,b,c,d,e,f,g,?_,?_⟩
  .rw [h,h1,Bt];omega
  .rw [i,j,Bt];omega
structure LookPre (r:Rd) (p:Pn):Prop where
 c:r.s.c.sm
 run:Sm r.s.run
 pend:r.s.pend.length<=900000
 ev:r.ev.length<=900000
 pods:0<=p.g.pods/\p.g.pods<=16
 start:r.head=false->r.start=0
 cho:bX r.s.c r.s.run p.g=none->∀ ids,fJ r.s.c r.s.run p.g=some ids->ids≠[]/\ids.length<=100000/\∀ id∈ids,0<=bA (cR id) r.s.run 0
abbrev r3O (r:Rd) (ge:Nat):AObj:=.cells 116 (rdC r (.slice 14 (rav r.s.run) .no) ge)
abbrev r3S (r:Rd) (ge:Nat):List AObj:=[r3O r ge,evT ge]
theorem EZ (l:List Pn) (a:Int) (hl:l.length<=1000000):aA Tryz.prog 32 [.slice 11 (pnv l) .no,ii a] [] (.ret (.tup [.slice 11 (pnv (fM l a)) .no,.bool (!decide (jF a l<0))])) []:=by
 have h:=Q2.takeref_ok (l.map Pn.q) a (by simpa using hl)
 rw [<-aCz,uN,uN] at h
 exact h
theorem KH (l:List Pn) (p:Pn) (hl:l.length<=1000000):aA Tryz.prog 56 [.slice 11 (pnv l) .no,p.av] [] (.ret (.slice 11 (pnv (oB l p)) .no)) []:=by
 have h:=Q2.putref_ok (l.map Pn.q) p.q (by simpa using hl)
 rw [<-ZO,uN,uN] at h
 exact h
theorem aGR {n a:Nat} (h:n<=1048576) (b:a<=1000):yX n a:=Aa (by simp only [maxLen];omega) (Cm (Gg h b) d_)
set_option maxHeartbeats 1000000 in
theorem E3 (r:Rd) (p:Pn) (fl:Int) (hs:List Int) (hp:r.s.pend.length<=1000000) (i:r.ev.length<=1000000) (c:r.s.run.length<=1000000):
  aA Tryz.prog 70 [.ref 0 0,p.av,ii fl,.slice 1 (iv hs) .no] (r3S r 0) (.ret (.tup [])) (r3S (DW r p fl hs) 1):=by
 obtain ⟨s,ev,head,start⟩:=r
 have j:=EZ s.pend p.g.id hp
 have b:(evv ev).length<=1048576:=by simp;dsimp only at i;omega
 have a:(rav s.run).length<=1048576:=by simp;dsimp only at c;omega
 have e:rav (s.run++[⟨p.g,p.seq,p.at',s.now,fl,hs⟩])=rav s.run++[Rn.av ⟨p.g,p.seq,p.at',s.now,fl,hs⟩]:=by simp
 have d:evv (ev++[⟨1,p.g.id,fl⟩])=evv ev++[Ev.av ⟨1,p.g.id,fl⟩]:=by simp
 unfold DW r3S r3O rdC
 dsimp only
 rw [e,d]
 generalize fM s.pend p.g.id=pq at *
 clear e d i c hp
 refine cT (E:=(Er [] [21,39,49,50,51,52,64,65])) (fn:=Tryz.f70) (g:=.full 2 _ _) fun _=>?_
 repeat' first | (refine gN (hEr [] [21,39,49,50,51,52,64,65]) ?_;conv=>whnf) | refine .pure _ [] j ?_ | refine Aa (aGR a d_) ?_ | refine Aa (qP a d_) ?_ | refine Aa (qP b d_) ?_ | exact rfl | (refine zt ?_;try intro h) | refine zu (fun h=>?_) fun h=>?_ | fail
 exact zqya0
noncomputable abbrev GC:Func:=Tryz.f72
def KZ (q:Rd) (x:Pn):Rd:=⟨{q.s with pend:=oB q.s.pend x},q.ev,q.head,q.start⟩
def zA (id:Int) (q:Rd) (x:Rn):Rd:=if cR id x=true then KZ q x.pn else q
abbrev aF1 (ids:List Int) (i:Nat):List (Nat×AVal):=[(0,.ref 0 0),(1,.slice 1 (iv ids) .no),(4,ii i)]
abbrev aF0 (R:Rd):Goal:=.full 2 (.ret (.tup [])) (r3S R 1)
set_option maxHeartbeats 2000000 in
theorem aHP (ids:List Int) (z:ids.length<=1048576) (R:Rd) (run:List Rn) (hs:Sm run) (i:Nat) (id:Int) (get:(iv ids)[i]? =some (ii id)) (Q:Rd) (u:Q.ev.length<=1000000)
  (next:To (Er [] [56,68,69]) GC (aF0 R) (.head (stk GC 0) (aF1 ids (i+1)) (r3S (aAd Q ⟨2,id,0⟩) 1))) (g:Nat) (l:g=0\/g=1):∀ (m k:Nat) (q:Rd),k+m=run.length->q.s.run=run->(run.drop k).foldl (zA id) q=Q->q.s.pend.length+m<=1000000->
  To (Er [] [56,68,69]) GC (aF0 R) (.head (stk GC 1) (aF1 ids i++[(5,ii k)]) (r3S q g)):=by
 have A:i<ids.length:=by have:=(Ac.1 get).1;simpa using this
 have v:(iv ids).length=ids.length:=by simp
 intro m
 induction m with
 | zero=>
  intro k q w b a _
  rw [Ae o_] at a
  have a:q=Q:=a
  subst a
  have j:(rav q.s.run).length=k:=by rw [b];simp;omega
  have o:(evv q.ev).length<=1048576:=by simp;omega
  have r:evv (q.ev++[⟨2,id,0⟩])=evv q.ev++[Ev.av ⟨2,id,0⟩]:=by simp
  unfold r3S r3O rdC aAd at next
  dsimp only at next
  rw [r] at next
  have y:=hs.1
  clear r b
  rcases l with rfl | rfl
  all_goals
   refine gV ?_
   refine aF fun h=>?_
   repeat' first | (refine gN (hEr [] [56,68,69]) ?_;conv=>whnf) | refine ⟨i,rfl,?_⟩ | refine ⟨_,get,?_⟩ | refine Aa (qP o d_) ?_ | exact rfl | (refine zt ?_;try intro h) | refine zu (fun h=>?_) fun h=>?_ | fail
   refine To.part [0,1,4] [0,1] rfl rfl rfl ?_
   exact next
 | succ m f=>
  intro k q w b a hp
  have e:k<run.length:=o_
  rw [Ad e,Aq] at a
  have n:(rav q.s.run)[k]? =some run[k].av:=by rw [b];exact cJ e
  have j:(rav q.s.run).length=run.length:=by rw [b];simp
  have y:=hs.1
  generalize run[k]=x at a n
  unfold zA at a
  cases c:cR id x with
  | true=>
   rw [if_pos c] at a
   have t:=KH q.s.pend x.pn o_
   have d:=f (k+1) (KZ q x.pn) o_ b a (by show (oB _ _).length+m<=_;rw [BE];omega)
   have p:x.pn=⟨x.g,x.seq,x.at'⟩:=rfl
   unfold r3S r3O rdC KZ at d
   dsimp only at d
   generalize oB q.s.pend x.pn=pq at *
   rw [p] at t
   unfold cR at c
   clear f next a
   rcases l with rfl | rfl
   all_goals
    refine gV ?_
    refine aT fun h=>?_
    repeat' first | (refine gN (hEr [] [56,68,69]) ?_;conv=>whnf) | refine ⟨k,rfl,?_⟩ | refine ⟨_,n,?_⟩ | refine ⟨i,rfl,?_⟩ | refine ⟨_,get,?_⟩ | refine Aa (fun _=>?_) (fun h=>absurd (c.symm.trans h) d_) | refine .pure _ [] t ?_ | exact rfl | (refine zt ?_;try intro h) | refine zu (fun h=>?_) fun h=>?_ | fail
    refine To.part [0,1,4,5] [0,1] rfl rfl rfl ?_
    exact d
  | false=>
   rw [if_neg (by rw [c];decide)] at a
   have d:=f (k+1) q o_ b a o_
   unfold cR at c
   clear f next a
   rcases l with rfl | rfl
   all_goals
    refine gV ?_
    refine aT fun h=>?_
    repeat' first | (refine gN (hEr [] [56,68,69]) ?_;conv=>whnf) | refine ⟨k,rfl,?_⟩ | refine ⟨_,n,?_⟩ | refine ⟨i,rfl,?_⟩ | refine ⟨_,get,?_⟩ | refine Aa (fun h=>absurd (c.symm.trans h) d_) (fun _=>?_) | exact rfl | (refine zt ?_;try intro h) | refine zu (fun h=>?_) fun h=>?_ | fail
    refine To.part [0,1,4,5] [0,1] rfl rfl rfl ?_
    exact d
theorem FB (id:Int):∀ (l:List Rn) (q:Rd),(∀ x∈l,cR id x=false)->l.foldl (zA id) q=q
 | [],_,_=>rfl
 | x::l,q,h=>by
  have e:zA id q x=q:=by unfold zA;rw [if_neg (by rw [h x (Ak ..)];decide)]
  rw [Aq,e]
  exact FB id l q fun y a=>h y (Ap _ a)
theorem BR (id:Int):∀ (l:List Rn) (i:Nat) (q:Rd),(l.map fun x=>x.g.id).Nodup->0<=bA (cR id) l i->l.foldl (zA id) q=KZ q (aX l (bA (cR id) l i-i).toNat).pn
 | [],i,q,_,h=>by have h:(0:Int)<= -1:=h;omega
 | x::l,i,q,hn,h=>by
  rw [Bk,Bp] at hn
  rw [Aq]
  unfold bA at h⊢
  by_cases a:cR id x=true
  .rw [if_pos a] at h⊢
   have e:((i:Int)-i).toNat=0:=o_
   rw [e]
   have b:zA id q x=KZ q x.pn:=by unfold zA;rw [if_pos a]
   rw [b]
   refine FB id l _ fun y d=>?_
   unfold cR at a⊢
   have a:x.g.id=id:=by simpa using a
   have:y.g.id≠x.g.id:=fun c=>hn.1 (c▸Ca d)
   simp
   omega
  .rw [if_neg a] at h⊢
   have b:zA id q x=q:=by unfold zA;rw [if_neg a]
   rw [b,BR id l (i+1) q hn.2 h]
   rcases CY (cR id) l (i+1) with f | f
   .omega
   .have e:(bA (cR id) l (i+1)-i).toNat=(bA (cR id) l (i+1)-((i+1:Nat):Int)).toNat+1:=o_
    rw [e]
    rfl
theorem aGW (run:List Rn) (a:(run.map fun x=>x.g.id).Nodup) (q:Rd) (id:Int) (h:0<=bA (cR id) run 0):aAd (run.foldl (zA id) q) ⟨2,id,0⟩=dM run q id:=by
 rw [BR id run 0 q a h]
 have e:(bA (cR id) run 0-((0:Nat):Int)).toNat=(bA (cR id) run 0).toNat:=o_
 rw [e]
 rfl
set_option maxHeartbeats 2000000 in
theorem aF6 (run:List Rn) (hs:Sm run) (k:(run.map fun x=>x.g.id).Nodup) (ids:List Int) (o:ids.length<=1048576) (f:∀ id∈ids,0<=bA (cR id) run 0) (R Q:Rd) (e:R=⟨{Q.s with run:=aE run ids},Q.ev,Q.head,Q.start⟩):∀ (m i:Nat) (q:Rd) (g:Nat),i+m=ids.length->(g=1\/g=0/\0<m)->q.s.run=run->(ids.drop i).foldl (dM run) q=Q->q.s.pend.length+m+run.length<=1000000->q.ev.length+m<=1000000->
  To (Er [] [56,68,69]) GC (aF0 R) (.head (stk GC 0) (aF1 ids i) (r3S q g)):=by
 have r:(iv ids).length=ids.length:=by simp
 intro m
 induction m with
 | zero=>
  intro i q g w l d a hp u
  rw [Ae o_] at a
  have a:q=Q:=a
  subst a
  have v:=lQ q.s.run (by rw [d];exact hs) ids o
  rw [<-d] at e
  generalize aE q.s.run ids=rn at *
  subst e
  obtain rfl:g=1:=o_
  refine gV ?_
  refine aF fun h=>?_
  repeat' first | (refine gN (hEr [] [56,68,69]) ?_;conv=>whnf) | refine .pure _ [] v ?_ | exact rfl | (refine zt ?_;try intro h) | refine zu (fun h=>?_) fun h=>?_ | fail
  exact zqya0
 | succ m p=>
  intro i q g w l d a hp u
  have b:i<ids.length:=o_
  rw [Ad b,Aq] at a
  have c:=f _ (Bg b)
  have get:(iv ids)[i]? =some (ii ids[i]):=by simp [b]
  generalize ids[i]=id at a c get
  have n:=aGW run k q id c
  have z:(dM run q id).s.pend.length=q.s.pend.length+1:=BE _ _
  have y:(dM run q id).ev.length=q.ev.length+1:=by show (q.ev++[_]).length=_;simp
  have next:=p (i+1) (dM run q id) 1 o_ (.inl rfl) d a o_ o_
  rw [<-n] at next
  have t:(run.foldl (zA id) q).ev.length=q.ev.length:=by rw [BR id run 0 q k c];rfl
  have j:=aHP ids o R run hs i id get _ o_ next g o_ run.length 0 q o_ d rfl o_
  clear next p n a
  rcases l with rfl | ⟨rfl,_⟩
  all_goals
   refine gV ?_
   refine aT fun h=>?_
   repeat' first | (refine gN (hEr [] [56,68,69]) ?_;conv=>whnf) | exact rfl | (refine zt ?_;try intro h) | refine zu (fun h=>?_) fun h=>?_ | fail
   refine To.part [0,1,4,5] [0,1] rfl rfl rfl ?_
   exact j
theorem UX (r:Rd) (ids:List Int) (hs:Sm r.s.run) (c:(r.s.run.map fun x=>x.g.id).Nodup) (e:ids.length<=1048576) (a:ids≠[]) (b:∀ id∈ids,0<=bA (cR id) r.s.run 0) (hp:r.s.pend.length+ids.length+r.s.run.length<=1000000) (d:r.ev.length+ids.length<=1000000):
  aA Tryz.prog 72 [.ref 0 0,.slice 1 (iv ids) .no] (r3S r 0) (.ret (.tup [])) (r3S (jG r ids) 1):=by
 have h:=aF6 r.s.run hs c ids e b (jG r ids) _ rfl ids.length 0 r 0 o_ (.inr ⟨rfl,List.length_pos_iff.2 a⟩) rfl rfl hp d
 generalize jG r ids=R at *
 refine cT (E:=(Er [] [56,68,69])) (fn:=Tryz.f72) (g:=.full 2 _ _) fun _=>?_
 refine gV ?_
 refine To.part [0,1,4] [0,1] rfl rfl rfl ?_
 exact h
abbrev D9 (r:Rd) (p:Pn) (O:List AObj):Prop:=aA Tryz.prog 42 [.ref 0 0,p.av] (r3S r 0) (.ret (.tup [])) O
abbrev xZ (c:Con) (run:List Rn) (p:Pn) (Q:Option (Int×List Int)):Prop:=aA Tryz.prog 68 [c.av,.slice 14 (rav run) .no,p.g.av] [] (.ret (fdA Q)) []
abbrev aE6 (s:Sta) (st:Int) (p:Pn) (b:Bool):Prop:=aA Tryz.prog 69 [ii s.now,p.g.av,ii st] [] (.ret (.bool b)) []
abbrev ZH (s:Sta) (p:Pn) (Q:Option (List Int)):Prop:=aA Tryz.prog 71 [s.c.av,.slice 14 (rav s.run) .no,p.g.av] [] (.ret (chR Q)) []
abbrev aE5 (s:Sta) (p:Pn) (Q:Option Int):Prop:=aA Tryz.prog 73 [s.c.av,ii s.now,.slice 14 (rav s.run) .no,p.g.av] [] (.ret (stA Q)) []
abbrev ZL (r:Rd) (p:Pn) (fl:Int) (hs:List Int) (R:Rd):Prop:=aA Tryz.prog 70 [.ref 0 0,p.av,ii fl,.slice 1 (iv hs) .no] (r3S r 0) (.ret (.tup [])) (r3S R 1)
abbrev aIG (r:Rd) (ids:List Int) (R:Rd):Prop:=aA Tryz.prog 72 [.ref 0 0,.slice 1 (iv ids) .no] (r3S r 0) (.ret (.tup [])) (r3S R 1)
theorem aIS (s:Sta) (ev:List Ev) (st:Int) (p:Pn) (fl:Int) (hs:List Int) (R:Rd) (h1:xZ s.c s.run p (some (fl,hs))) (a:ZL ⟨s,ev,false,st⟩ p fl hs R):D9 ⟨s,ev,false,st⟩ p (r3S R 1):=by
 refine cT (E:=(Er [] [120,132,133])) (fn:=Tryz.f42) (g:=.full 2 _ _) fun _=>?_
 repeat' first | (refine gN (hEr [] [120,132,133]) ?_;conv=>whnf) | refine .pure _ [] h1 ?_ | refine .eff [] [0,1] _ _ rfl a ?_ | exact rfl | (refine zt ?_;try intro h) | refine zu (fun h=>?_) fun h=>?_ | fail
 exact zqya0
theorem aIR (s:Sta) (ev:List Ev) (st:Int) (p:Pn) (fl:Int) (hs:List Int) (R:Rd) (h1:xZ s.c s.run p (some (fl,hs))) (hm:aE6 s st p true) (a:ZL ⟨s,ev,true,st⟩ p fl hs R):D9 ⟨s,ev,true,st⟩ p (r3S R 1):=by
 refine cT (E:=(Er [] [120,132,133])) (fn:=Tryz.f42) (g:=.full 2 _ _) fun _=>?_
 repeat' first | (refine gN (hEr [] [120,132,133]) ?_;conv=>whnf) | refine .pure _ [] h1 ?_ | refine .pure _ [] hm ?_ | refine .eff [] [0,1] _ _ rfl a ?_ | exact rfl | (refine zt ?_;try intro h) | refine zu (fun h=>?_) fun h=>?_ | fail
 exact zqya0
theorem aIP (s:Sta) (ev:List Ev) (st:Int) (p:Pn) (x:Int×List Int) (h1:xZ s.c s.run p (some x)) (hm:aE6 s st p false):D9 ⟨s,ev,true,st⟩ p (r3S ⟨s,ev,true,st⟩ 0):=by
 refine cT (E:=(Er [] [120,132,133])) (fn:=Tryz.f42) (g:=.full 2 _ _) fun _=>?_
 repeat' first | (refine gN (hEr [] [120,132,133]) ?_;conv=>whnf) | refine .pure _ [] h1 ?_ | refine .pure _ [] hm ?_ | exact rfl | (refine zt ?_;try intro h) | refine zu (fun h=>?_) fun h=>?_ | fail
 exact zqya0
theorem aIQ (s:Sta) (ev:List Ev) (st:Int) (p:Pn) (h1:xZ s.c s.run p none):D9 ⟨s,ev,true,st⟩ p (r3S ⟨s,ev,true,st⟩ 0):=by
 refine cT (E:=(Er [] [120,132,133])) (fn:=Tryz.f42) (g:=.full 2 _ _) fun _=>?_
 repeat' first | (refine gN (hEr [] [120,132,133]) ?_;conv=>whnf) | refine .pure _ [] h1 ?_ | exact rfl | (refine zt ?_;try intro h) | refine zu (fun h=>?_) fun h=>?_ | fail
 exact zqya0
set_option maxHeartbeats 1000000 in
theorem aIO (s:Sta) (ev:List Ev) (st:Int) (p:Pn) (h1:xZ s.c s.run p none) (a:ZH s p none) (h3:aE5 s p none):D9 ⟨s,ev,false,st⟩ p (r3S ⟨s,ev,false,st⟩ 0):=by
 refine cT (E:=(Er [] [120,132,133])) (fn:=Tryz.f42) (g:=.full 2 _ _) fun _=>?_
 repeat' first | (refine gN (hEr [] [120,132,133]) ?_;conv=>whnf) | refine .pure _ [] h1 ?_ | refine .pure _ [] a ?_ | refine .pure _ [] h3 ?_ | exact rfl | (refine zt ?_;try intro h) | refine zu (fun h=>?_) fun h=>?_ | fail
 exact zqya0
set_option maxHeartbeats 1000000 in
theorem aIN (s:Sta) (ev:List Ev) (st:Int) (p:Pn) (n:Int) (e:ev.length<=1000000) (h1:xZ s.c s.run p none) (d:ZH s p none) (h3:aE5 s p (some n)):D9 ⟨s,ev,false,st⟩ p (r3S ⟨s,ev++[⟨4,p.g.id,n⟩],true,n⟩ 1):=by
 have a:(evv ev).length<=1048576:=by simp;omega
 have b:evv (ev++[⟨4,p.g.id,n⟩])=evv ev++[Ev.av ⟨4,p.g.id,n⟩]:=by simp
 unfold D9 r3S r3O rdC
 dsimp only
 rw [b]
 refine cT (E:=(Er [] [120,132,133])) (fn:=Tryz.f42) (g:=.full 2 _ _) fun _=>?_
 repeat' first | (refine gN (hEr [] [120,132,133]) ?_;conv=>whnf) | refine .pure _ [] h1 ?_ | refine .pure _ [] d ?_ | refine .pure _ [] h3 ?_ | refine Aa (qP a d_) ?_ | exact rfl | (refine zt ?_;try intro h) | refine zu (fun h=>?_) fun h=>?_ | fail
 exact zqya0
set_option maxHeartbeats 2000000 in
theorem aIM (s:Sta) (ev:List Ev) (st:Int) (p:Pn) (ids:List Int) (R a:Rd) (fl:Int) (hs:List Int) (h1:xZ s.c s.run p none) (b:ZH s p (some ids)) (h3:aIG ⟨s,ev,false,st⟩ ids R) (e:xZ s.c R.s.run p (some (fl,hs))) (d:ZL R p fl hs a):D9 ⟨s,ev,false,st⟩ p (r3S a 1):=by
 refine cT (E:=(Er [] [120,132,133])) (fn:=Tryz.f42) (g:=.full 2 _ _) fun _=>?_
 repeat' first | (refine gN (hEr [] [120,132,133]) ?_;conv=>whnf) | refine .pure _ [] h1 ?_ | refine .pure _ [] b ?_ | refine .eff [] [0,1] _ _ rfl h3 ?_ | refine .pure _ [] e ?_ | refine .eff [] [0,1] _ _ rfl d ?_ | exact rfl | (refine zt ?_;try intro h) | refine zu (fun h=>?_) fun h=>?_ | fail
 exact zqya0
theorem mS (l:List Pn) (p:Pn):(oB l p).Perm (p::l):=by
 unfold oB
 have h:=De (Q2.putAt p.q (l.map Pn.q)) l
 generalize En (Q2.putAt p.q (l.map Pn.q)) l=A at *
 generalize Fv (Q2.putAt p.q (l.map Pn.q)) l=B at *
 rw [<-h,Ay]
 exact Fo
theorem CJ (a:Int):∀ (l:List Pn) (i:Nat),((∀ p∈l,p.g.id≠a)/\Q2.idx (fun x=>x.id==a) (l.map Pn.q) i= -1)\/∃ A p B,l=A++p::B/\p.g.id=a/\Q2.idx (fun x=>x.id==a) (l.map Pn.q) i=((i+A.length:Nat):Int)
 | [],i=>.inl ⟨fun p hp=>(by cases hp),rfl⟩
 | p::l,i=>by
  rw [Bk]
  unfold Q2.idx
  by_cases h:p.g.id=a
  .right
   refine ⟨[],p,l,rfl,h,?_⟩
   have e:(p.q.id==a)=true:=by show (p.g.id==a)=true;rw [h];simp
   simp [e]
  .have e:(p.q.id==a)=false:=by show (p.g.id==a)=false;simpa using h
   simp only [e]
   rcases CJ a l (i+1) with ⟨h1,b⟩ | ⟨A,x,B,h1,b,h3⟩
   .left
    refine ⟨fun q c=>?_,b⟩
    rcases Aj.1 c with rfl | c
    .exact h
    .exact h1 q c
   .right
    refine ⟨p::A,x,B,by rw [h1];rfl,b,?_⟩
    refine h3.trans ?_
    rw [Bt]
    congr 1
    omega
theorem IN (a:Int) (l:List Pn):((∀ p∈l,p.g.id≠a)/\jF a l= -1)\/∃ A p B,l=A++p::B/\p.g.id=a/\jF a l=(A.length:Int):=by
 have h:=CJ a l 0
 simp only [Cb] at h
 exact h
theorem AY {l:List Pn} {p:Pn} (hp:p∈l) (f:(l.map fun x=>x.g.id).Nodup):(p::fM l p.g.id).Perm l/\∀ q∈l,q≠p->q∈fM l p.g.id:=by
 rcases IN p.g.id l with ⟨h,_⟩ | ⟨A,x,B,h1,i,h3⟩
 .exact absurd rfl (h p hp)
 .have j:x=p:=by
   subst h1
   rw [Bl,Bk,Ax] at f
   obtain ⟨_,d,c⟩:=f
   rw [Bp] at d
   rcases Ao.1 hp with hp | hp
   .exact absurd i.symm (c _ (Ca hp) _ (Ak ..))
   .rcases Aj.1 hp with hp | hp
    .exact hp.symm
    .exact absurd (i▸Ca hp) d.1
  subst j
  have e:fM l x.g.id=A++B:=by
   unfold fM
   rw [if_neg o_,h3,h1]
   show (A++x::B).eraseIdx A.length=_
   rw [Ij (Bi _),Ip]
   rfl
  rw [e]
  refine ⟨by rw [h1];exact Fo.symm,fun q a b=>?_⟩
  rw [h1] at a
  rcases Ao.1 a with a | a
  .exact Cd _ a
  .rcases Aj.1 a with a | a
   .exact absurd a b
   .exact Cp _ a
theorem tF {id:Int} (l:List Rn):∀ (i:Nat) (x:Rn),x∈l->x.g.id=id->0<=bA (cR id) l i:=by
 induction l with
 | nil=>intro i x a;cases a
 | cons y l c=>
  intro i x a h
  unfold bA
  by_cases b:cR id y=true
  .rw [if_pos b];omega
  .rw [if_neg b]
   rcases Aj.1 a with e | a
   .exact absurd (by unfold cR;rw [<-e];simpa using h) b
   .exact c (i+1) x a h
theorem VZ {id:Int} (l:List Rn):∀ (i:Nat),0<=bA (cR id) l i->aX l (bA (cR id) l i-i).toNat∈l/\(aX l (bA (cR id) l i-i).toNat).g.id=id:=by
 induction l with
 | nil=>intro i h;have h:(0:Int)<= -1:=h;omega
 | cons y l b=>
  intro i h
  unfold bA at h⊢
  by_cases a:cR id y=true
  .rw [if_pos a]
   have e:((i:Int)-i).toNat=0:=o_
   rw [e]
   unfold cR at a
   exact ⟨Ak ..,(by simpa using a:y.g.id=id)⟩
  .rw [if_neg a] at h⊢
   obtain ⟨h1,c⟩:=b (i+1) h
   rcases CY (cR id) l (i+1) with h3 | h3
   .omega
   .have e:(bA (cR id) l (i+1)-i).toNat=(bA (cR id) l (i+1)-((i+1:Nat):Int)).toNat+1:=o_
    rw [e]
    exact ⟨Ap _ h1,c⟩
def xOf (run:List Rn) (id:Int):Rn:=aX run (bA (cR id) run 0).toNat
theorem mK {run:List Rn} {id:Int} (h:0<=bA (cR id) run 0):xOf run id∈run/\(xOf run id).g.id=id:=by
 have a:=VZ run 0 h
 have e:(bA (cR id) run 0-((0:Nat):Int)).toNat=(bA (cR id) run 0).toNat:=o_
 rw [e] at a
 exact a
theorem F7 (run:List Rn):∀ (ids:List Int) (r:Rd),(ids.foldl (dM run) r).s.pend.Perm (ids.map (fun id=>(xOf run id).pn)++r.s.pend)
 | [],r=>Ep _
 | id::ids,r=>by
  rw [Aq,Bk]
  refine (F7 run ids (dM run r id)).trans ?_
  have h:(dM run r id).s.pend=oB r.s.pend (xOf run id).pn:=rfl
  rw [h]
  refine (Fm _ (mS _ _)).trans ?_
  exact Fo
theorem Z6 {l:List Rn} (h:pJ l):(l.map fun x=>x.g.id).Nodup:=by
 unfold Fp
 rw [Bu]
 exact Ko (fun h=>h.1) h
theorem K8 {run:List Rn} (k:pJ run) {ids:List Int} (l:ids.Nodup) (c:∀ id∈ids,0<=bA (cR id) run 0):(ids.map (xOf run)++aE run ids).Perm run:=by
 have d:run.Nodup:=Ko (fun h e=>h.1 (by rw [e])) k
 have h1:(ids.map (xOf run)).Nodup:=by
  unfold Fp
  rw [Bu]
  refine List.Pairwise.imp_of_mem (fun {a b} j i hab e=>hab ?_) l
  rw [<-(mK (c a j)).2,<-(mK (c b i)).2,e]
 have m:(aE run ids).Nodup:=d.sublist Gb
 refine (List.perm_ext_iff_of_nodup ?_ d).2 fun x=>?_
 .refine Ax.2 ⟨h1,m,fun a j b i e=>?_⟩
  obtain ⟨id,hid,rfl⟩:=Bb.1 j
  subst e
  exact (eD.1 i).2 (by rw [(mK (c id hid)).2];exact hid)
 .constructor
  .intro h
   rcases Ao.1 h with h | h
   .obtain ⟨id,hid,rfl⟩:=Bb.1 h
    exact (mK (c id hid)).1
   .exact (eD.1 h).1
  .intro h
   by_cases f:x.g.id∈ids
   .refine Cd _ (Bb.2 ⟨x.g.id,f,?_⟩)
    exact aDm k (mK (c _ f)).1 h (mK (c _ f)).2
   .exact Cp _ (eD.2 ⟨h,f⟩)
structure Base (s:Sta):Prop where
 c:s.c.sm
 ids:((s.pend++s.run.map Rn.pn).map fun x=>x.g.id).Nodup
 seqs:((s.pend++s.run.map Rn.pn).map fun x=>x.seq).Nodup
 few:(s.pend++s.run.map Rn.pn).length<=39
 gang:∀ x∈s.pend++s.run.map Rn.pn,(0<=x.g.pods/\x.g.pods<=16)/\aH x.g.need=true/\x.g.id≠0
structure RCore (s:Sta) (r:Rd) (rest:List Pn):Prop where
 c:r.s.c=s.c
 now:r.s.now=s.now
 nxt:r.s.nxt=s.nxt
 hist:r.s.hist=s.hist
 perm:(r.s.pend++r.s.run.map Rn.pn).Perm (s.pend++s.run.map Rn.pn)
 sub:∀ p∈rest,p∈r.s.pend
 rn:rest.Nodup
 start:r.head=false->r.start=0
 hs:∀ x∈r.s.run,x.hs.length<=1048576
theorem RCore.few {s:Sta} {r:Rd} {rest:List Pn} (b:Base s) (h:RCore s r rest):r.s.pend.length+r.s.run.length<=39:=by
 have:=h.perm.length_eq
 have a:=b.few
 simp at this a
 omega
theorem RCore.sm {s:Sta} {r:Rd} {rest:List Pn} (b:Base s) (h:RCore s r rest):Sm r.s.run:=⟨by have:=h.few b;omega,h.hs⟩
theorem RCore.once {s:Sta} {r:Rd} {rest:List Pn} (b:Base s) (h:RCore s r rest):pJ r.s.run:=by
 have h1:=((h.perm.map fun x=>x.g.id).nodup_iff).2 b.ids
 have a:=((h.perm.map fun x=>x.seq).nodup_iff).2 b.seqs
 rw [Bl,Ax,Cu] at h1 a
 have h1:=h1.2.1
 have a:=a.2.1
 unfold Fp at h1 a
 rw [Bu] at h1 a
 exact h1.and a
theorem RCore.pids {s:Sta} {r:Rd} {rest:List Pn} (b:Base s) (h:RCore s r rest):(r.s.pend.map fun x=>x.g.id).Nodup:=by
 have h1:=((h.perm.map fun x=>x.g.id).nodup_iff).2 b.ids
 rw [Bl,Ax] at h1
 exact h1.1
theorem RCore.gangP {s:Sta} {r:Rd} {rest:List Pn} (b:Base s) (h:RCore s r rest) {p:Pn} (hp:p∈r.s.pend):(0<=p.g.pods/\p.g.pods<=16)/\aH p.g.need=true/\p.g.id≠0:=
 b.gang p (h.perm.mem_iff.1 (Cd _ hp))
theorem RCore.gangR {s:Sta} {r:Rd} {rest:List Pn} (b:Base s) (h:RCore s r rest) {x:Rn} (a:x∈r.s.run):(0<=x.g.pods/\x.g.pods<=16)/\aH x.g.need=true/\x.g.id≠0:=
 b.gang x.pn (h.perm.mem_iff.1 (Cp _ (Ca a)))
theorem RCore.skip {s:Sta} {r:Rd} {p:Pn} {rest:List Pn} (h:RCore s r (p::rest)):RCore s r rest:=
 {h with sub:=fun q a=>h.sub q (Ap _ a),rn:=(Bp.1 h.rn).2}
theorem RCore.adm {s:Sta} {r:Rd} {p:Pn} {rest:List Pn} (b:Base s) (h:RCore s r (p::rest)) {fl:Int} {hs:List Int} (hl:hs.length<=1048576):RCore s (DW r p fl hs) rest where
 c:=h.c
 now:=h.now
 nxt:=h.nxt
 hist:=h.hist
 perm:=by
  have hp:=(AY (h.sub p (Ak ..)) (h.pids b)).1
  show (fM r.s.pend p.g.id++(r.s.run++[_]).map Rn.pn).Perm _
  refine Lf ?_ h.perm
  rw [Bl,<-Ay]
  refine (Gj (l₂:=[p])).trans ?_
  rw [<-Ay]
  exact Fh _ hp
 sub q hq:=(AY (h.sub p (Ak ..)) (h.pids b)).2 q (h.sub q (Ap _ hq)) fun e=>(Bp.1 h.rn).1 (e▸hq)
 rn:=(Bp.1 h.rn).2
 start:=h.start
 hs x hx:=by
  rcases Ao.1 hx with hx | hx
  .exact h.hs x hx
  .rw [Bf.1 hx]
   exact hl
theorem RCore.evic {s:Sta} {r:Rd} {rest:List Pn} (b:Base s) (h:RCore s r rest) {ids:List Int} (j:ids.Nodup) (a:∀ id∈ids,0<=bA (cR id) r.s.run 0):RCore s (jG r ids) rest:=by
 obtain ⟨o,k,i,g,_,m,n,_,_⟩:=zX r.s.run ids r
 have hp:=F7 r.s.run ids r
 refine ⟨o.trans h.c,k.trans h.now,i.trans h.nxt,g.trans h.hist,?_,fun p d=>hp.mem_iff.2 (Cp _ (h.sub p d)),h.rn,fun e=>?_,fun x l=>h.hs x (Dt.1 l).1⟩
 .show ((ids.foldl (dM r.s.run) r).s.pend++(aE r.s.run ids).map Rn.pn).Perm _
  refine Lf ?_ h.perm
  refine (Fh _ hp).trans ?_
  have f:=(K8 (h.once b) j a).map Rn.pn
  rw [Bl,Cu] at f
  refine (Fh _ Gj).trans ?_
  rw [Ay]
  exact Fm _ f
 .show (ids.foldl (dM r.s.run) r).start=0
  rw [n]
  refine h.start ?_
  rw [<-m]
  exact e
theorem xJ {s:Sta} {r:Rd} {rest:List Pn} (b:Base s) (h:RCore s r rest) {g:Gan} (j:bX r.s.c r.s.run g=none) {ids:List Int} (d:fJ r.s.c r.s.run g=some ids):
  ids≠[]/\ids.Nodup/\ids.length<=39/\(∀ id∈ids,0<=bA (cR id) r.s.run 0)/\∃ x,bX r.s.c (aE r.s.run ids) g=some x:=by
 obtain ⟨_,h1,i,h3⟩:=yL d
 have hl:=aEJ (h.once b) d
 have a:=h.few b
 refine ⟨fun e=>?_,h1,by omega,fun id hid=>?_,Db.1 h3⟩
 .subst e
  unfold sE at h3
  rw [lM,j] at h3
  cases h3
 .obtain ⟨_,x,f,e,_⟩:=i id hid
  exact tF _ 0 x f e
theorem VJ {s:Sta} {r:Rd} {p:Pn} {rest:List Pn} (b:Base s) (h:RCore s r (p::rest)):RCore s (cG r p) rest/\(cG r p).ev.length<=r.ev.length+40:=by
 have w:=(h.gangP b (h.sub p (Ak ..))).1
 have a:=h.skip
 have f:∀ {q:Rd},RCore s q (p::rest)->RCore s (admR q p).1 rest/\(admR q p).1.ev.length<=q.ev.length+1:=fun {q} d=>by
  unfold admR
  cases i:bX q.s.c q.s.run p.g with
  | none=>exact ⟨d.skip,Nat.le_succ _⟩
  | some x=>
   have t:=CV w i
   obtain ⟨fl,hs⟩:=x
   unfold EM
   dsimp only
   split
   .exact ⟨d.skip,Nat.le_succ _⟩
   .exact ⟨d.adm b t,by show (q.ev++[_]).length<=_;simp⟩
 unfold cG
 split
 .exact ⟨(f h).1,by have:=(f h).2;omega⟩
 .rename_i v
  split
  .exact ⟨a,by omega⟩
  .rename_i m
   have j:r.head=false:=by cases d:r.head with | false=>rfl | true=>exact absurd d m
   have k:bX r.s.c r.s.run p.g=none:=by
    cases i:bX r.s.c r.s.run p.g with
    | none=>rfl
    | some x=>
     obtain ⟨fl,hs⟩:=x
     refine absurd ?_ v
     unfold admR
     rw [i]
     unfold EM
     dsimp only
     rw [j]
     rfl
   cases d:fJ r.s.c r.s.run p.g with
   | none=>
    show RCore s (UY r p _) rest/\(UY r p _).ev.length<=_
    cases sX r.s.c r.s.now r.s.run p.g with
    | none=>exact ⟨a,by show r.ev.length<=_;omega⟩
    | some n=>exact ⟨⟨a.c,a.now,a.nxt,a.hist,a.perm,a.sub,a.rn,fun e=>(by cases e),a.hs⟩,by show (r.ev++[_]).length<=_;simp⟩
   | some ids=>
    obtain ⟨_,o,z,u,_⟩:=xJ b h k d
    obtain ⟨l,A⟩:=f (h.evic b o u)
    refine ⟨l,?_⟩
    have y:(jG r ids).ev.length=r.ev.length+ids.length:=(zX r.s.run ids r).2.2.2.2.2.2.2.2
    show (admR (jG r ids) p).1.ev.length<=_
    omega
def QS (r:Rd) (p:Pn):Prop:=(cG r p=r/\D9 r p (r3S r 0))\/D9 r p (r3S (cG r p) 1)
theorem aDl {s:Sta} {r:Rd} {p:Pn} {rest:List Pn} (b:Base s) (h:RCore s r (p::rest)) (Y:r.ev.length<=900000):QS r p/\RCore s (cG r p) rest/\(cG r p).ev.length<=r.ev.length+40:=by
 obtain ⟨C,J,g3⟩:=h.gangP b (h.sub p (Ak ..))
 have D:=h.few b
 have L:r.s.c.sm:=by rw [h.c];exact b.c
 have o:=kI r.s.c L r.s.run (h.sm b) p.g C J
 have hm:=aCW r.s.now p.g r.start
 cases v:bX r.s.c r.s.run p.g with
 | some x=>
  rw [v] at o
  have w:=CV C v
  have m:=E3 r p x.1 x.2 o_ o_ o_
  have k:=h.adm b (fl:=x.1) w
  have q:(DW r p x.1 x.2).ev.length=r.ev.length+1:=by show (r.ev++[_]).length=_;simp
  obtain ⟨d,ev,head,start⟩:=r
  dsimp only at v hm o
  have B:admR ⟨d,ev,head,start⟩ p=EM ⟨d,ev,head,start⟩ p (some x):=by unfold admR;rw [v]
  cases head with
  | false=>
   have i:cG ⟨d,ev,false,start⟩ p=DW ⟨d,ev,false,start⟩ p x.1 x.2:=by
    unfold cG
    rw [B]
    rfl
   rw [i]
   refine ⟨.inr ?_,k,by rw [q];exact Nat.add_le_add_left d_ _⟩
   rw [i]
   exact aIS d ev start p x.1 x.2 _ o m
  | true=>
   cases K:bmB d.now p.g start with
   | true=>
    have i:cG ⟨d,ev,true,start⟩ p=DW ⟨d,ev,true,start⟩ p x.1 x.2:=by
     exact zqya1
    rw [K] at hm
    rw [i]
    refine ⟨.inr ?_,k,by rw [q];exact Nat.add_le_add_left d_ _⟩
    rw [i]
    exact aIR d ev start p x.1 x.2 _ o hm m
   | false=>
    have i:cG ⟨d,ev,true,start⟩ p=⟨d,ev,true,start⟩:=by
     exact zqya1
    rw [K] at hm
    rw [i]
    exact ⟨.inl ⟨i,aIP d ev start p x o hm⟩,h.skip,La _ _⟩
 | none=>
  rw [v] at o
  have N:=fun ids=>xJ b h (g:=p.g) v (ids:=ids)
  have l:=fun R=>KQ r.s.c L r.s.run (h.sm b) o_ (h.once b) (fun x A=>(h.gangR b A).2.2) p.g C J R
  have j:=KT r.s.c L r.s.now r.s.run (h.sm b) p.g C J
  have F:=fun ids=>UX r ids (h.sm b) (Z6 (h.once b))
  have H:=fun ids (a:ids.Nodup)=>h.evic b (ids:=ids) a
  have f:=h.skip
  have I:r.s.pend.length+r.s.run.length<=39:=D
  obtain ⟨d,ev,head,start⟩:=r
  dsimp only at v hm o I Y
  have B:admR ⟨d,ev,head,start⟩ p=(⟨d,ev,head,start⟩,false):=by unfold admR;rw [v];rfl
  cases head with
  | true=>
   have i:cG ⟨d,ev,true,start⟩ p=⟨d,ev,true,start⟩:=by
    unfold cG
    rw [B]
    rfl
   rw [i]
   exact ⟨.inl ⟨i,aIQ d ev start p o⟩,f,La _ _⟩
  | false=>
   have i:cG ⟨d,ev,false,start⟩ p=aFb ⟨d,ev,false,start⟩ p (fJ d.c d.run p.g):=by
    unfold cG
    rw [B]
    rfl
   cases G:fJ d.c d.run p.g with
   | none=>
    have t:=l none G
    rw [G] at i
    have i:cG ⟨d,ev,false,start⟩ p=UY ⟨d,ev,false,start⟩ p (sX d.c d.now d.run p.g):=i
    dsimp only at j
    cases hs:sX d.c d.now d.run p.g with
    | none=>
     rw [hs] at j i
     have i:cG ⟨d,ev,false,start⟩ p=⟨d,ev,false,start⟩:=i
     rw [i]
     exact ⟨.inl ⟨i,aIO d ev start p o t j⟩,f,La _ _⟩
    | some n=>
     rw [hs] at j i
     have i:cG ⟨d,ev,false,start⟩ p=⟨d,ev++[⟨4,p.g.id,n⟩],true,n⟩:=i
     rw [i]
     refine ⟨.inr ?_,⟨f.c,f.now,f.nxt,f.hist,f.perm,f.sub,f.rn,fun e=>(by cases e),f.hs⟩,by simp⟩
     rw [i]
     exact aIN d ev start p n o_ o t j
   | some ids=>
    have t:=l (some ids) G
    rw [G] at i
    obtain ⟨V,Z,a3,Q,x,A⟩:=N ids G
    have U:=F ids o_ V Q (by dsimp only;omega) (by dsimp only;omega)
    have k:=H ids Z Q
    have z:=kI d.c L (aE d.run ids) (nV (h.sm b) ids) p.g C J
    dsimp only at A
    rw [A] at z
    have w:=CV C A
    obtain ⟨f1,_,_,_,f5,X,_,f8,W⟩:=zX d.run ids ⟨d,ev,false,start⟩
    have P:(jG ⟨d,ev,false,start⟩ ids).s.c=d.c:=f1
    have y:(jG ⟨d,ev,false,start⟩ ids).s.run=aE d.run ids:=rfl
    have T:(jG ⟨d,ev,false,start⟩ ids).s.pend.length=d.pend.length+ids.length:=f8
    have M:(jG ⟨d,ev,false,start⟩ ids).ev.length=ev.length+ids.length:=W
    have O:(jG ⟨d,ev,false,start⟩ ids).head=false:=X
    have hR6:(aE d.run ids).length<=d.run.length:=Dp _ _
    have i:cG ⟨d,ev,false,start⟩ p=(admR (jG ⟨d,ev,false,start⟩ ids) p).1:=i
    generalize jG ⟨d,ev,false,start⟩ ids=R at *
    have S:(admR R p).1=DW R p x.1 x.2:=by
     unfold admR
     rw [P,y,A]
     unfold EM
     dsimp only
     rw [O]
     rfl
    rw [S] at i
    have m:=E3 R p x.1 x.2 o_ o_ (by rw [y];omega)
    have u:=k.adm b (fl:=x.1) w
    have q:(DW R p x.1 x.2).ev.length=R.ev.length+1:=by show (R.ev++[_]).length=_;simp
    rw [i]
    refine ⟨.inr ?_,u,by rw [q,M];show ev.length+ids.length+1<=ev.length+40;omega⟩
    rw [i]
    rw [<-y] at z
    exact aIM d ev start p ids R _ x.1 x.2 o t U z m
def JN (s:Sta) (r:Rd) (rest:List Pn):Prop:=RCore s r rest/\r.ev.length+100*rest.length<=900000
theorem E1 {s:Sta} (b:Base s) (r:Rd) (p:Pn) (rest:List Pn) (h:JN s r (p::rest)):JN s (cG r p) rest:=by
 have c:=h.2
 rw [Bt] at c
 obtain ⟨a,h3⟩:=VJ b h.1
 exact ⟨a,by omega⟩
theorem YX {s:Sta} (b:Base s) (r:Rd) (p:Pn) (rest:List Pn) (h:JN s r (p::rest)):QS r p/\JN s (cG r p) rest:=by
 have c:=h.2
 rw [Bt] at c
 obtain ⟨h1,a,h3⟩:=aDl b h.1 o_
 exact ⟨h1,a,by omega⟩
structure RunOK (s:Sta):Prop where
 base:Base s
 sm:StaSm' s
 ord:OrdOK s
 at':aE1 s.pend
 tot:Tot (ltP s) s.pend
theorem RunOK.start {s:Sta} (h:RunOK s):JN s ⟨s,[],false,0⟩ (uQ s):=by
 have hp:(uQ s).Perm s.pend:=J6 _ _
 have b:s.pend.Nodup:=by
  have:=h.base.ids
  rw [Bl,Ax] at this
  have:=this.1
  unfold Fp at this
  rw [Bu] at this
  exact Ko (fun h e=>h (by rw [e])) this
 have hl:=h.base.few
 rw [Bo] at hl
 have a:=hp.length_eq
 refine ⟨⟨rfl,rfl,rfl,rfl,Ep _,fun p c=>hp.mem_iff.1 c,hp.symm.nodup b,fun _=>rfl,h.sm.run.2⟩,?_⟩
 show 0+_<=_
 omega
def eW (s:Sta):Rd:=(uQ s).foldl cG ⟨s,[],false,0⟩
theorem mQ {s:Sta} (b:Base s):∀ (L:List Pn) (r:Rd),JN s r L->JN s (L.foldl cG r) []
 | [],_,h=>h
 | p::L,r,h=>mQ b L (cG r p) (E1 b r p L h)
theorem RunOK.few {s:Sta} (h:RunOK s):s.pend.length<40:=by
 have:=h.base.few
 rw [Bo] at this
 omega
noncomputable abbrev aFe:Func:=Tryz.f18
abbrev aHJ (L:List Pn) (i:Nat):List (Nat×AVal):=[(2,.ref 2 0),(4,.ref 0 0),(5,.slice 11 (pnv L) .no),(6,ii i)]
abbrev aHI (r:Rd):List AObj:=[r3O r 0,evT 0,aE2]
set_option maxHeartbeats 1000000 in
theorem UK (b:Rd->List Pn->Prop) (j:∀ r p rest,b r (p::rest)->QS r p/\b (cG r p) rest) (L:List Pn) (n:L.length<=1000000) (R:Rd):∀ (m i:Nat) (r:Rd),i+m=L.length->(L.drop i).foldl cG r=R->b r (L.drop i)->
  To E aFe (.pure (.ret (.tup [R.s.av,.slice 3 (evv R.ev) .no]))) (.head (stk aFe 0) (aHJ L i) (aHI r)):=by
 have g:(pnv L).length=L.length:=by simp
 intro m
 induction m with
 | zero=>
  intro i r l a _
  rw [Ae o_] at a
  have a:r=R:=a
  subst a
  refine gV ?_
  refine aF fun h=>?_
  refine cX hE 2 ?_;conv=>whnf
  refine To.permAt hE [0,1,2,3,4,5,6,7,9] [8] (by rfl) ?_;conv=>whnf
  refine aL ?_;conv=>whnf
  refine aL ?_
  repeat' first | (refine gN hE ?_;conv=>whnf) | exact rfl | (refine zt ?_;try intro h) | refine zu (fun h=>?_) fun h=>?_ | fail
 | succ m k=>
  intro i r l a d
  have c:i<L.length:=o_
  rw [Ad c] at a d
  rw [Aq] at a
  obtain ⟨h1,f⟩:=j _ _ _ d
  have get:=lR c
  generalize L[i]=p at a d h1 f get
  have next:=k (i+1) (cG r p) o_ a f
  rcases h1 with ⟨e,hl⟩ | hl
  .rw [e] at next
   refine gV ?_
   refine aT fun h=>?_
   repeat' first | (refine gN hE ?_;conv=>whnf) | refine ⟨i,rfl,?_⟩ | refine ⟨_,get,?_⟩ | refine .eff [] [0,1] _ _ rfl hl ?_ | exact rfl | (refine zt ?_;try intro h) | refine zu (fun h=>?_) fun h=>?_ | fail
   refine To.part [2,4,5,6] [0,1,2] rfl rfl rfl ?_
   exact next
  .generalize cG r p=r2 at *
   refine gV ?_
   refine aT fun h=>?_
   repeat' first | (refine gN hE ?_;conv=>whnf) | refine ⟨i,rfl,?_⟩ | refine ⟨_,get,?_⟩ | refine .eff [] [0,1] _ _ rfl hl ?_ | exact rfl | (refine zt ?_;try intro h) | refine zu (fun h=>?_) fun h=>?_ | fail
   refine To.part [2,4,5,6] [0,1,2] rfl rfl rfl ?_
   exact next
theorem RU (s:Sta) (h:RunOK s):aA Tryz.prog 18 [s.av] [] (.ret (.tup [(eW s).s.av,.slice 3 (evv (eW s).ev) .no])) []:=by
 have a:=h.few
 have hl:(uQ s).length=s.pend.length:=(J6 _ _).length_eq
 have h1:=UK (JN s) (YX h.base) (uQ s) o_ _ (uQ s).length 0 ⟨s,[],false,0⟩ o_ rfl h.start
 have hs:=YJ s h.ord o_ h.at'
 rw [Bx] at h1
 have e:(uQ s).foldl cG ⟨s,[],false,0⟩=eW s:=rfl
 rw [e] at h1
 generalize eW s=R at *
 generalize uQ s=L at *
 refine c_ Tryz.f18 fun _=>?_
 repeat' first | (refine gN hE ?_;conv=>whnf) | refine .pure _ [] hs ?_ | exact rfl | (refine zt ?_;try intro h) | refine zu (fun h=>?_) fun h=>?_ | fail
 refine To.begin 2 9 46 rfl rfl ?_
 refine To.part [2,4,5,6] [2,3,1] rfl rfl rfl ?_
 exact h1
def cM (s:Sta) (g:Gan):Sta×Int:=
 if dQ s.c g≠0 then (s,dQ s.c g) else
 if 0<=jF g.id s.pend\/0<=bA (cR g.id) s.run 0 then (s,5) else
 if (bX s.c [] g).isNone=true then (s,6) else
 if 32<=s.pend.length+s.run.length then (s,8) else
 ({s with pend:=oB s.pend ⟨g,s.nxt,s.now⟩,nxt:=s.nxt+1},0)
def lA (l:List Rn) (t:Int):List Ev:=(l.filter fun x=>decide (dN x<=t)).map fun x=>⟨3,x.g.id,0⟩
def gZ (s:Sta) (n:Int):Sta×List Ev×Int:=
 if n<1\/1048576<n then (s,[],1) else
 if 1099511627776-n<s.now then (s,[],8) else
 ({s with hist:=tkL s.hist (yS s.c s.run) n s.c.half,now:=s.now+n,run:=atL s.run (s.now+n)},lA s.run (s.now+n),0)
def bP (s:Sta) (x:Cmd):Sta×List Ev×Int:=
 if C8.chk x≠0 then (s,[],C8.chk x) else
 if x.k=1 then (if bC x.c≠0 then (s,[],bC x.c) else if 0<s.pend.length+s.run.length then (s,[],7) else ({s with c:=x.c,hist:=Ah x.c.ns.length 0},[],0)) else
 if x.k=2 then ((cM s x.g).1,[],(cM s x.g).2) else
 if x.k=5 then gZ s x.n else
 if x.k=6 then ((eW s).s,(eW s).ev,0) else
 if 0<=bA (cR x.n) s.run 0 then ({s with run:=aE s.run [x.n]},[],0) else
 if x.k=3\/jF x.n s.pend<0 then (s,[],4) else
 ({s with pend:=fM s.pend x.n},[],0)
structure StOK (s:Sta):Prop where
 c:s.c.sm
 run:RunOK s
 half:s.c.half<=9223372036854775807
 nxt:0<=s.nxt/\s.nxt<=1099511627777
theorem A0 {f:Rn->Int} (q:Rn->Bool):∀ {l:List Rn},(∀ x∈l,0<=f x)->bU ((l.filter q).map f)<=bU (l.map f)
 | [],_=>Di _
 | x::l,h=>by
  have c:=A0 q (l:=l) fun y b=>h y (Ap _ b)
  have d:=h x (Ak ..)
  have e:bU ((x::l).map f)=f x+bU (l.map f):=rfl
  by_cases a:q x=true
  .rw [Fb a,e]
   show f x+bU _<=_
   omega
  .rw [Fa a,e]
   omega
theorem J4 {f:Rn->Int} {x:Rn}:∀ {l:List Rn},bU ((l++[x]).map f)=bU (l.map f)+f x
 | []=>by show f x+0=0+f x;omega
 | y::l=>by
  show f y+bU ((l++[x]).map f)=f y+bU (l.map f)+f x
  rw [J4]
  omega
theorem MS {c:Con} {free:List V3} {g:Gan} {hs:List Int}:qU c free g hs=true↔(hs.length:Int)=g.pods/\(∃ G∈gpL c g.lev,∀ u∈hs,u∈G)/\∀ u∈hs,0<=u/\u<(free.length:Int)/\((hs.count u:Nat):Int)<=cO ((free[u.toNat]?).getD V3.zero) g.need:=by
 constructor
 .intro h
  obtain ⟨h1,f⟩:=TP h
  refine ⟨h1,?_,f⟩
  unfold qU at h
  rw [if_pos h1,Ef] at h
  obtain ⟨G,i,h⟩:=h
  unfold tM at h
  rw [Af] at h
  exact ⟨G,i,tT.1 h.1⟩
 .intro ⟨h1,⟨G,i,f⟩,h3⟩
  unfold qU
  rw [if_pos h1,Ef]
  refine ⟨G,i,?_⟩
  unfold tM
  rw [tT.2 f,Bw]
  unfold CW
  rw [Bq]
  intro u j
  obtain ⟨a,b,d⟩:=h3 u j
  unfold aA6
  rw [if_neg q_,if_neg q_]
  have e:zH u hs=((hs.count u:Nat):Int):=by unfold zH;rw [xI];omega
  rw [e]
  simp
  omega
structure NeedOK (g:Gan):Prop where
 v:aH g.need=true
 pods:1<=g.pods/\g.pods<=16
 lev:0<=g.pref/\g.pref<=g.lev/\g.lev<=3
 run:1<=g.run/\g.run<=1048576
 id:1<=g.id
theorem gB {c:Con} {g:Gan} (h:dQ c g=0):NeedOK g:=by
 obtain ⟨h1,_⟩:=nE.1 h
 unfold EL at h1
 simp only [Af,decide_eq_true_eq] at h1
 exact ⟨h1.2.1,by omega,by omega,by omega,by omega⟩
def rC (p:V3->Int) (c:Con) (l:List Rn):Prop:=∀ j:Nat,j<c.hs.length->bU (l.map (lO p (j:Int)))<=p (aS c.hs (j:Int)).c
def aIC (c:Con) (r:Rn):Prop:=(r.hs.length:Int)=r.g.pods/\(∃ G∈gpL c r.g.lev,∀ u∈r.hs,u∈G)/\∀ u∈r.hs,0<=u/\u<(c.hs.length:Int)
structure HstOK (c:Con) (l:List Rn):Prop where
 a:rC V3.a c l
 b:rC V3.b c l
 d:rC V3.c c l
theorem rC.filter {p:V3->Int} {c:Con} {l:List Rn} (q:Rn->Bool) (b:∀ v,aH v=true->0<=p v) (d:∀ x∈l,NeedOK x.g) (h:rC p c l):rC p c (l.filter q):=fun j a=>
 Es (A0 q fun x e=>Hj (b _ (d x e).v) o_) (h j a)
theorem HstOK.filter {c:Con} {l:List Rn} (q:Rn->Bool) (f:∀ x∈l,NeedOK x.g) (h:HstOK c l):HstOK c (l.filter q):=
 ⟨h.a.filter q (fun _ e=>(bM e).1.1) f,h.b.filter q (fun _ e=>(bM e).2.1.1) f,h.d.filter q (fun _ e=>(bM e).2.2.1) f⟩
theorem aGG {s:Sta} (h:tL s=true) (i:s.c.ns≠[]):HstOK s.c s.run:=by
 obtain ⟨k,_⟩:=MR h i
 have d:∀ x∈s.run,aH x.g.need=true:=fun x f=>(gB (JC h f).gang).v
 have key:∀ p:V3->Int,Prj p->(∀ v,aH v=true->0<=p v/\p v<=1048576)->(∀ free need (n:Int),aH need=true->1<=n->n<=cO free need->p need*n<=p free)->rC p s.c s.run:=fun p hp a b j e=>by
  have h1:=PF hp h i a b e
  rw [zV hp (fun j e=>a _ (JE k e)) (fun x f=>a _ (d x f)) e] at h1
  unfold cV at h1
  omega
 exact ⟨key _ aDf (fun _ a=>(bM a).1) (fun _ _ _ a h1 b=>(jX a h1 b).1),key _ aDe (fun _ a=>(bM a).2.1) (fun _ _ _ a h1 b=>(jX a h1 b).2.1),key _ aDd (fun _ a=>(bM a).2.2) (fun _ _ _ a h1 b=>(jX a h1 b).2.2)⟩
theorem rC.more {p:V3->Int} {c:Con} {l:List Rn} {x:Rn} (hp:Prj p) (o:bC c=0) (d:∀ v,aH v=true->0<=p v/\p v<=1048576) (k:∀ free need (n:Int),aH need=true->1<=n->n<=cO free need->p need*n<=p free) (m:∀ y∈l,NeedOK y.g) (a:NeedOK x.g)
  (f:∀ u∈x.hs,((x.hs.count u:Nat):Int)<=cO (((fR c l)[u.toNat]?).getD V3.zero) x.g.need) (h:rC p c l):rC p c (l++[x]):=by
 intro j b
 rw [J4]
 have q:=h j b
 have e:lO p (j:Int) x=p x.g.need*((x.hs.count (j:Int):Nat):Int):=rfl
 by_cases hm:(j:Int)∈x.hs
 .have i:0<x.hs.count (j:Int):=Kc.2 hm
  have h1:=k _ _ _ a.v o_ (f _ hm)
  rw [Dl,zV hp (fun j b=>d _ (JE o b)) (fun x a=>d _ (m x a).v) b,<-e] at h1
  have hz:0<=lO p (j:Int) x:=Hj (d _ a.v).1 o_
  unfold cV at h1
  omega
 .rw [e,Ie.2 hm]
  simp
  omega
theorem HstOK.more {c:Con} {l:List Rn} {x:Rn} (k:bC c=0) (j:∀ y∈l,NeedOK y.g) (m:NeedOK x.g) (f:∀ u∈x.hs,((x.hs.count u:Nat):Int)<=cO (((fR c l)[u.toNat]?).getD V3.zero) x.g.need) (h:HstOK c l):HstOK c (l++[x]):=
 ⟨h.a.more aDf k (fun _ e=>(bM e).1) (fun _ _ _ e h1 i=>(jX e h1 i).1) j m f,h.b.more aDe k (fun _ e=>(bM e).2.1) (fun _ _ _ e h1 i=>(jX e h1 i).2.1) j m f,h.d.more aDd k (fun _ e=>(bM e).2.2) (fun _ _ _ e h1 i=>(jX e h1 i).2.2) j m f⟩
def sR (c:Con) (l:List Rn):Prop:=∀ i:Nat,i<c.ns.length->bK (atV (ofL c l) (i:Int)) (pE c (i:Int))=true
theorem aC7 {s:Sta}:HY s=true↔sR s.c s.run:=by
 unfold HY sR
 rw [Bq]
 exact ⟨fun h i a=>h i (Fu.2 a),fun h i a=>h i (Fu.1 a)⟩
theorem NeedOK.dem {g:Gan} (h:NeedOK g):(dem g).pos:=aEA h.v ⟨by have:=h.pods;omega,h.pods.2⟩
theorem sR.filter {c:Con} {l:List Rn} (q:Rn->Bool) (b:∀ x∈l,NeedOK x.g) (h:sR c l):sR c (l.filter q):=fun i a=>
 tZ.2 ((aDo (fun x d=>(b x d).dem) q (i:Int)).2.1.trans (tZ.1 (h i a)))
theorem sR.more {c:Con} {l:List Rn} {x:Rn} (j:∀ y∈l,NeedOK y.g) (m:NeedOK x.g) (hm:yW c (ofL c l) x.g.ten (Go.Proofs.YtlanfgblaebddaaGreat.dem x.g)=true) (hl:aU c.ns x.g.ten=true) (h:sR c l):sR c (l++[x]):=by
 intro i f
 by_cases hp:(i:Int)∈bG c.ns x.g.ten
 .have h1:=(KX (fun y k=>(j y k).dem) m.dem hm _ hp).2
  have e:SD c x.g.ten (i:Int)=pE c (i:Int):=by
   unfold SD pE
   by_cases b:(i:Int)=x.g.ten
   .rw [if_pos b,b,if_pos hl]
   .rw [if_neg b,if_neg]
    intro d
    unfold bG at hp
    rw [Gu] at hp
    exact b (SI d hp)
  rw [<-e]
  exact h1
 .have e:atV (ofL c (l++[x])) (i:Int)=atV (ofL c l) (i:Int):=by
   have a:c.ok (i:Int):=⟨by omega,by simpa using f⟩
   rw [yD a,yD a,Iv]
   show nW c _ _ x=_
   unfold nW
   rw [if_neg]
   intro n
   exact hp (by unfold bG;rw [Gu];simpa using n.2)
  rw [e]
  exact h i f
theorem FD:∀ {l ns:List Nod} {i:Nat},mB ns i l=true->∀ k (h:k<l.length),mZ (rlB ns ((i+k:Nat):Int)) (i+k) l[k]=true
 | [],_,_,_,k,h=>absurd h (Jy _)
 | x::l,ns,i,h0,k,h=>by
  unfold mB at h0
  by_cases a:mZ (rlB ns i) i x=true
  .rw [if_pos a] at h0
   cases k with
   | zero=>exact a
   | succ k=>
    have:=FD h0 k (by simpa using h)
    rw [show i+1+k=i+(k+1) from by omega] at this
    exact this
  .rw [if_neg a] at h0
   cases h0
theorem qV {c:Con} (h:bC c=0):wG c/\mB c.ns 0 c.ns=true/\c.hs.all nD=true:=by
 unfold bC at h
 split at h
 .split at h
  .split at h
   .exact ⟨by assumption,by assumption,by assumption⟩
   .omega
  .omega
 .omega
theorem EQ {v:V3} (h:aH v=true):v.pos:=by
 obtain ⟨a,b,d⟩:=bM h
 exact ⟨a.1,b.1,d.1⟩
theorem LE {c:Con} (h:bC c=0) {i:Nat} (d:i<c.ns.length):(bN c.ns (i:Int)).n.pos/\(bN c.ns (i:Int)).b.pos:=by
 have h1:=FD (qV h).2.1 i d
 have e:bN c.ns (i:Int)=c.ns[i]:=by unfold bN;rw [Dl,Ab d];rfl
 rw [e]
 unfold mZ at h1
 have f:∀ v:V3,zB v=true->v.pos:=fun v a=>by
  unfold zB at a
  simp at a
  exact ⟨by omega,by omega,by omega⟩
 split at h1
 .cases h1
 .split at h1
  .simp only [Af] at h1
   exact ⟨EQ h1.1,EQ h1.2.1⟩
  .simp only [Af] at h1
   exact ⟨f _ h1.1,f _ h1.2.1⟩
theorem ZM {c:Con} (h:bC c=0):sR c []:=by
 intro i k
 have f:c.ok (i:Int):=⟨by omega,by simpa using k⟩
 rw [yD f]
 have hs:∀ p:V3->Int,Prj p->(∀ v:V3,v.pos->0<=p v)->0<=p (pE c (i:Int)):=fun p hp j=>by
  have g:0<=p (gE c.ns (i:Int) (jP c.ns))/\p (gE c.ns (i:Int) (jP c.ns))<=cV:=by
   unfold gE
   have hz:=hp.zero
   have a:∀ e∈(bB c.ns (i:Int)).map fun t=>p (atV (jP c.ns) t),0<=e:=fun e m=>by
    obtain ⟨t,l,rfl⟩:=Bb.1 m
    have d:=iH c (i:Int) t l
    rw [aAg d]
    have b:t=(t.toNat:Int):=by have:=d.1;omega
    rw [b]
    exact j _ (LE h d.2).1
   rw [HC hp,hz,uG (Di _) d_ a]
   have:=kC a
   unfold cV
   omega
  unfold pE
  split
  .rw [hp.add]
   have h1:=j _ (LE h k).2
   rw [rB g.1 g.2 h1]
   unfold cV
   omega
  .exact g.1
 exact tZ.2 ⟨hs _ aDf fun _ h=>h.1,hs _ aDe fun _ h=>h.2.1,hs _ aDd fun _ h=>h.2.2⟩
theorem VY {c:Con} {free:List V3} {g:Gan} (A:1<=g.pods) (hl:0<=g.pref/\g.pref<=g.lev/\g.lev<=3) {x:Int×List Int} (h:sM c free g=some x):(aS c.hs (x.2.headD 0)).f=x.1:=by
 have e:∀ (j:List (List Int)),fdG c free g j=some x->∃ a∈j,x=((aS c.hs (a.headD 0)).f,inL free g a)/\¬ ((inL free g a).length:Int)<g.pods:=fun j=>by
  induction j with
  | nil=>intro h;cases h
  | cons a r l=>
   intro h
   unfold fdG at h
   by_cases h1:((inL free g a).length:Int)<g.pods
   .rw [if_pos (decide_eq_true h1)] at h
    obtain ⟨q,p,o⟩:=l h
    exact ⟨q,Ap _ p,o⟩
   .rw [if_neg (by rw [decide_eq_false h1];decide)] at h
    cases h
    exact ⟨a,Ak ..,rfl,h1⟩
 have d:∀ (n:Nat) (lv:Int),fdL c free g n lv=some x->∃ b,lv<=b/\b<lv+n/\fdG c free g (gpL c b)=some x:=fun n=>by
  induction n with
  | zero=>intro lv h;cases h
  | succ n l=>
   intro lv h
   unfold fdL at h
   cases i:fdG c free g (gpL c lv) with
   | some y=>
    rw [i] at h
    cases h
    exact ⟨lv,Di _,by omega,i⟩
   | none=>
    rw [i] at h
    obtain ⟨b,p,o,u⟩:=l (lv+1) h
    exact ⟨b,by omega,by omega,u⟩
 unfold sM at h
 obtain ⟨b,l1,l2,v⟩:=d _ _ h
 obtain ⟨a,z,rfl,m⟩:=e _ v
 have k:(inL free g a).headD 0∈a:=by
  have hm:(inL free g a).headD 0∈inL free g a:=by
   cases i:inL free g a with
   | nil=>rw [i] at m;simp at m;omega
   | cons y t=>exact Ak ..
  rcases PB a [] _ hm with h | h
  .cases h
  .exact h.1
 obtain ⟨_,w⟩:=II (c:=c) (lv:=b) o_ o_
 have s:=(JL o_ o_).1 ((w a z).2.2 _ k).2.2
 unfold pL ofK at s
 exact (Hb s).1.symm
abbrev Srt (l:List Pn):Prop:=l.Pairwise fun a b=>a.seq<b.seq
structure RunP (c:Con) (now:Int) (l:List Rn):Prop where
 time:∀ r∈l,r.at'<=r.st/\r.st<=now/\now<dN r/\(aS c.hs (r.hs.headD 0)).f=r.fl
 plc:∀ r∈l,aIC c r
 hst:HstOK c l
 quo:sR c l
def TV (c:Con) (nxt now:Int) (x:Pn):Prop:=dQ c x.g=0/\(bX c [] x.g).isNone=false/\(0<=x.seq/\x.seq<nxt)/\0<=x.at'/\x.at'<=now
structure OkS (s:Sta):Prop where
 head:dP s.c=true\/bC s.c=0
 now:0<=s.now/\s.now<=1099511627776
 nxt:1<=s.nxt/\s.nxt<=1099511627776
 hist:s.hist.length=s.c.ns.length
 few:s.pend.length+s.run.length<=32
 row:Srt s.pend
 gang:∀ x∈s.pend++s.run.map Rn.pn,TV s.c s.nxt s.now x
 ids:((s.pend++s.run.map Rn.pn).map fun x=>x.g.id).Nodup
 seqs:((s.pend++s.run.map Rn.pn).map fun x=>x.seq).Nodup
 run:RunP s.c s.now s.run
theorem ET {l:List Pn}:(l.map Pn.q).Pairwise (fun a b=>a.seq<b.seq)↔Srt l:=by
 rw [Bu]
 exact Ly
theorem aCS {l:List Pn} (h:(l.map fun x=>x.g.id).Nodup):yU l=true↔Srt l:=by
 unfold yU
 rw [Q2.check_good]
 constructor
 .exact fun g=>ET.1 g.seq
 .refine fun g=>⟨ET.2 g,?_⟩
  rw [Bu]
  unfold Fp at h
  rw [Bu] at h
  exact h
theorem SN (p:Q2.Pend):∀ {l:List Q2.Pend},l.Pairwise (fun a b=>a.seq<b.seq)->(∀ x∈l,x.seq≠p.seq)->(Q2.insP p l).Pairwise (fun a b=>a.seq<b.seq)/\∀ x∈Q2.insP p l,x=p\/x∈l
 | [],_,_=>⟨Dq _ _,fun x c=>.inl (Bf.1 c)⟩
 | y::r,h,hn=>by
  rw [Bn] at h
  unfold Q2.insP
  by_cases d:p.seq<y.seq
  .rw [if_pos d]
   refine ⟨Bn.2 ⟨fun z hz=>?_,Bn.2 h⟩,fun x c=>Aj.1 c⟩
   rcases Aj.1 hz with rfl | hz
   .exact d
   .have:=h.1 z hz
    omega
  .rw [if_neg d]
   obtain ⟨h1,e⟩:=SN p h.2 fun x c=>hn x (Ap _ c)
   have f:=hn y (Ak ..)
   refine ⟨Bn.2 ⟨fun z hz=>?_,h1⟩,fun x c=>?_⟩
   .rcases e z hz with rfl | hz
    .omega
    .exact h.1 z hz
   .rcases Aj.1 c with rfl | c
    .exact .inr (Ak ..)
    .rcases e x c with rfl | c
     .exact .inl rfl
     .exact .inr (Ap _ c)
theorem R5 {l:List Pn} {p:Pn} (h:Srt l) (b:∀ x∈l,x.seq≠p.seq):Srt (oB l p):=by
 refine ET.1 ?_
 rw [ZO,Q2.putP_ins]
 refine (SN p.q (ET.2 h) fun x c=>?_).1
 obtain ⟨y,a,rfl⟩:=Bb.1 c
 exact b y a
theorem J3 {l:List Pn} {a:Int} (h:Srt l):Srt (fM l a):=by
 unfold fM
 split
 .exact h
 .exact h.sublist (List.eraseIdx_sublist ..)
structure SizOK (c:Con):Prop where
 ns:c.ns.length<=12
 hs:c.hs.length<=24
 half:0<=c.half/\c.half<=1048576
 age:0<=c.age/\c.age<=1048576
theorem iB {c:Con}:dP c=true↔c=⟨[],[],0,0⟩:=by
 obtain ⟨a,b,d,e⟩:=c
 unfold dP
 simp
theorem kU {c:Con} (h:dP c=true\/bC c=0):SizOK c:=by
 rcases h with h | h
 .rw [iB] at h
  subst h
  exact ⟨by simp,by simp,by decide,by decide⟩
 .have h1:=(qV h).1
  unfold wG at h1
  exact ⟨by omega,by omega,by omega,by omega⟩
theorem P3 {c:Con} (h:dP c=true) (g:Gan):dQ c g≠0:=by
 rw [iB] at h
 subst h
 intro e
 have h1:=(nE.1 e).2
 unfold aU at h1
 simp at h1
 omega
theorem O7 {c:Con} (h:dP c=true\/bC c=0) {g:Gan} (a:dQ c g=0):bC c=0:=h.resolve_left fun e=>P3 e g a
theorem aGD (s:Sta):ids s=(s.pend++s.run.map Rn.pn).map fun x=>x.g.id:=by
 unfold ids
 rw [Bl,Cu]
 rfl
theorem aCJ (s:Sta):seqs s=(s.pend++s.run.map Rn.pn).map fun x=>x.seq:=by
 unfold seqs
 rw [Bl,Cu]
 rfl
theorem ZT {s:Sta} {p:Pn}:pnB s p=true↔TV s.c s.nxt s.now p:=by
 unfold pnB TV
 simp only [Af,decide_eq_true_eq,Co]
theorem aGl {s:Sta} (h:tL s=true):OkS s:=by
 have z:=h
 unfold tL SV at h
 simp only [Af,Fy,decide_eq_true_eq,Bq] at h
 obtain ⟨⟨h1,v,h3,y,w⟩,p,⟨t,m⟩,o,k,n⟩:=h
 rw [aGD] at o
 rw [aCJ] at k
 have f:=o
 rw [Bl,Ax] at f
 refine ⟨h1,v,h3,y,w,(aCS f.1).1 p,fun x i=>?_,o,k,⟨fun r g=>?_,fun r g=>?_,?_,aC7.1 n⟩⟩
 .rcases Ao.1 i with i | i
  .exact ZT.1 (t x i)
  .obtain ⟨r,g,rfl⟩:=Bb.1 i
   exact ZT.1 (m r g).1
 .have c:=(m r g).2
  unfold rnB at c
  simp only [Af,decide_eq_true_eq] at c
  exact ⟨c.1.1.1,c.1.1.2,c.1.2,c.2.2⟩
 .have c:=(m r g).2
  unfold rnB at c
  simp only [Af,decide_eq_true_eq] at c
  obtain ⟨a,b,d⟩:=MS.1 c.2.1
  exact ⟨a,b,fun u q=>by have:=d u q;rw [CT] at this;exact ⟨this.1,this.2.1⟩⟩
 .rcases h1 with h1 | h1
  .rw [iB] at h1
   rw [h1]
   exact ⟨fun j l=>absurd l (Jy _),fun j l=>absurd l (Jy _),fun j l=>absurd l (Jy _)⟩
  .refine aGG z fun e=>?_
   have:=(qV h1).1
   unfold wG at this
   rw [e] at this
   simp at this
theorem OkS.base {s:Sta} (h:OkS s):Base s where
 c:=⟨by have:=(kU h.head).ns;omega,by have:=(kU h.head).hs;omega⟩
 ids:=h.ids
 seqs:=h.seqs
 few:=by rw [Bo,Ck];have:=h.few;omega
 gang x hx:=by
  have hn:=gB (h.gang x hx).1
  have:=hn.pods
  have:=hn.id
  exact ⟨by omega,hn.v,by omega⟩
theorem J2 (s:Sta) {l:List Pn} (h:(l.map fun x=>x.seq).Nodup):Tot (ltP s) l:=by
 unfold Tot
 unfold Fp at h
 rw [Bu] at h
 exact h.imp fun h=>aDG s h
theorem OkS.st {s:Sta} (h:OkS s) (hl:LtF s.hist):StOK s:=by
 have hz:=kU h.head
 have h1:=hz.ns
 have l:=hz.hs
 have h3:=hz.half
 have k:=hz.age
 have j:=h.hist
 have i:=h.few
 have f:=h.nxt
 have b:Sm s.run:=⟨by omega,fun x d=>by
  have:=(h.run.plc x d).1
  have:=(gB (h.gang x.pn (Cp _ (Ca d))).1).pods
  have e:x.pn.g=x.g:=rfl
  rw [e] at this
  omega⟩
 have a:=h.seqs
 rw [Bl,Ax] at a
 exact ⟨h.base.c,⟨h.base,⟨by omega,by omega,by omega,b,by omega⟩,⟨h.base.c,h1,hl,by omega,h.now,by omega⟩,fun p hp=>(h.gang p (Cd _ hp)).2.2.2.1,J2 s a.1⟩,by omega,by omega⟩
theorem RunP.filter {c:Con} {now:Int} {l:List Rn} (q:Rn->Bool) (b:∀ x∈l,NeedOK x.g) (h:RunP c now l):RunP c now (l.filter q):=
 ⟨fun r a=>h.time r (Dt.1 a).1,fun r a=>h.plc r (Dt.1 a).1,h.hst.filter q b,h.quo.filter q b⟩
theorem OkS.needs {s:Sta} (h:OkS s):∀ x∈s.run,NeedOK x.g:=fun x a=>gB (h.gang x.pn (Cp _ (Ca a))).1
theorem OkS.part {s:Sta} (h:OkS s) {pend:List Pn} {run:List Rn} {rest:List Pn} (hp:((pend++run.map Rn.pn)++rest).Perm (s.pend++s.run.map Rn.pn)) (hs:Srt pend) (hr:RunP s.c s.now run):OkS {s with pend:=pend,run:=run} where
 head:=h.head
 now:=h.now
 nxt:=h.nxt
 hist:=h.hist
 few:=by
  have h1:=hp.length_eq
  have h2:=h.few
  simp only [Bo,Ck] at h1
  show pend.length+run.length<=32
  omega
 row:=hs
 gang x hx:=h.gang x (hp.mem_iff.1 (Cd _ hx))
 ids:=by
  have h1:=((hp.map fun x=>x.g.id).nodup_iff).2 h.ids
  rw [Bl,Ax] at h1
  exact h1.1
 seqs:=by
  have h1:=((hp.map fun x=>x.seq).nodup_iff).2 h.seqs
  rw [Bl,Ax] at h1
  exact h1.1
 run:=hr
theorem CZ {α:Type} (q:α->Bool):∀ (l:List α),(l.filter q++l.filter fun x=>!q x).Perm l
 | []=>Ep _
 | x::l=>by
  have b:=CZ q l
  by_cases a:q x=true
  .rw [Fb a,Fa (by rw [a];decide)]
   exact b.cons x
  .rw [Fa a,Fb (by simpa using a)]
   exact Fo.trans (b.cons x)
theorem OkS.wo {s:Sta} (h:OkS s) (q:Rn->Bool):OkS {s with run:=s.run.filter q}:=by
 refine h.part (pend:=s.pend) (run:=s.run.filter q) (rest:=(s.run.filter fun x=>!q x).map Rn.pn) ?_ h.row (h.run.filter q h.needs)
 rw [Ay,<-Bl]
 exact Fm _ ((CZ q s.run).map _)
theorem OkS.take {s:Sta} (h:OkS s) (a:Int):OkS {s with pend:=fM s.pend a}:=by
 have b:=h.run
 rcases IN a s.pend with ⟨_,e⟩ | ⟨A,p,B,c,d,e3⟩
 .have:fM s.pend a=s.pend:=by unfold fM;rw [if_pos o_]
  rw [this]
  exact h
 .have e:fM s.pend a=A++B:=by
   unfold fM
   rw [if_neg o_,e3,c]
   show (A++p::B).eraseIdx A.length=_
   rw [Ij (Bi _),Ip]
   rfl
  refine h.part (pend:=fM s.pend a) (run:=s.run) (rest:=[p]) ?_ (J3 h.row) b
  rw [e,c]
  refine Gj.trans ?_
  show (p::((A++B)++_)).Perm _
  rw [Ay,Ay]
  exact Fo.symm
structure RK (s:Sta) (r:Rd):Prop where
 row:Srt r.s.pend
 run:RunP s.c s.now r.s.run
theorem RCore.gangA {s:Sta} {r:Rd} {rest:List Pn} (o:OkS s) (h:RCore s r rest):∀ x∈r.s.pend++r.s.run.map Rn.pn,TV s.c s.nxt s.now x:=fun x a=>o.gang x (h.perm.mem_iff.1 a)
theorem RCore.needs {s:Sta} {r:Rd} {rest:List Pn} (o:OkS s) (h:RCore s r rest):∀ x∈r.s.run,NeedOK x.g:=fun x a=>gB (h.gangA o x.pn (Cp _ (Ca a))).1
theorem RK.adm {s:Sta} {r:Rd} {p:Pn} {rest:List Pn} (o:OkS s) (h:RCore s r (p::rest)) (k:RK s r) {x:Int×List Int} (e:bX r.s.c r.s.run p.g=some x):RK s (DW r p x.1 x.2):=by
 have hp:=h.gangA o p (Cd _ (h.sub p (Ak ..)))
 have b:=gB hp.1
 have q:=O7 o.head hp.1
 rw [h.c] at e
 unfold bX at e
 split at e
 .rename_i hm
  obtain ⟨t,j⟩:=aA8 b.v b.pods.1 b.lev e
  have i:=VY b.pods.1 b.lev e
  obtain ⟨w,m,l⟩:=MS.1 j
  have d:=h.needs o
  refine ⟨J3 k.row,⟨fun y a=>?_,fun y a=>?_,?_,?_⟩⟩
  .rcases Ao.1 a with a | a
   .exact k.run.time y a
   .rw [Bf.1 a]
    have:=hp.2.2.2
    have:=b.run
    have:=o.now
    refine ⟨by show p.at'<=r.s.now;rw [h.now];omega,by show r.s.now<=s.now;rw [h.now];omega,?_,i⟩
    have n:=h.now
    unfold dN
    dsimp only
    split
    .omega
    .split<;>omega
  .rcases Ao.1 a with a | a
   .exact k.run.plc y a
   .rw [Bf.1 a]
    exact ⟨w,m,fun u f=>by have:=l u f;rw [CT] at this;exact ⟨this.1,this.2.1⟩⟩
  .exact k.run.hst.more q d b fun u f=>(t u f).2.2
  .exact k.run.quo.more d b hm (nE.1 hp.1).2
 .cases e
theorem MB (run:List Rn):∀ (ids:List Int) (r:Rd),Srt r.s.pend->((ids.map (fun id=>(xOf run id).pn)++r.s.pend).map fun x=>x.seq).Nodup->Srt (ids.foldl (dM run) r).s.pend
 | [],_,h,_=>h
 | id::ids,r,h,hn=>by
  rw [Aq]
  have hp:=mS r.s.pend (xOf run id).pn
  rw [Bk,Jd,Bk,Bp] at hn
  refine MB run ids (dM run r id) (R5 h fun x a e=>hn.1 ?_) ?_
  .have e:x.seq=(xOf run id).pn.seq:=e
   rw [<-e]
   exact Ca (Cp _ a)
  .have h1:(ids.map (fun id=>(xOf run id).pn)++(dM run r id).s.pend).Perm ((xOf run id).pn::(ids.map (fun id=>(xOf run id).pn)++r.s.pend)):=(Fm _ hp).trans Fo
   refine ((h1.map fun x=>x.seq).nodup_iff).2 ?_
   rw [Bk,Bp]
   exact hn
theorem RK.evic {s:Sta} {r:Rd} {rest:List Pn} (o:OkS s) (h:RCore s r rest) (k:RK s r) {ids:List Int} (b:ids.Nodup) (a:∀ id∈ids,0<=bA (cR id) r.s.run 0):RK s (jG r ids):=by
 refine ⟨MB r.s.run ids r k.row ?_,k.run.filter _ (h.needs o)⟩
 have h1:=(K8 (h.once o.base) b a).map Rn.pn
 rw [Bl,Cu] at h1
 have c:((ids.map (fun id=>(xOf r.s.run id).pn)++r.s.pend)++(aE r.s.run ids).map Rn.pn).Perm (s.pend++s.run.map Rn.pn):=by
  refine Lf ?_ h.perm
  refine (Fh _ Gj).trans ?_
  rw [Ay]
  exact Fm _ h1
 have h3:=((c.map fun x=>x.seq).nodup_iff).2 o.seqs
 rw [Bl,Ax] at h3
 exact h3.1
theorem RK.admR {s:Sta} {r:Rd} {p:Pn} {rest:List Pn} (o:OkS s) (h:RCore s r (p::rest)) (k:RK s r):RK s (Go.Proofs.YtlanfgblaebddaaGreat.admR r p).1:=by
 unfold Go.Proofs.YtlanfgblaebddaaGreat.admR
 cases a:bX r.s.c r.s.run p.g with
 | none=>exact k
 | some x=>
  obtain ⟨fl,hs⟩:=x
  unfold EM
  dsimp only
  split
  .exact k
  .exact k.adm o h a
theorem RK.look {s:Sta} {r:Rd} {p:Pn} {rest:List Pn} (o:OkS s) (h:RCore s r (p::rest)) (k:RK s r):RK s (cG r p):=by
 unfold cG
 split
 .exact k.admR o h
 .rename_i j
  split
  .exact k
  .rename_i i
   have d:r.head=false:=by cases a:r.head with | false=>rfl | true=>exact absurd a i
   have b:bX r.s.c r.s.run p.g=none:=by
    cases l:bX r.s.c r.s.run p.g with
    | none=>rfl
    | some x=>
     obtain ⟨fl,hs⟩:=x
     refine absurd ?_ j
     unfold Go.Proofs.YtlanfgblaebddaaGreat.admR
     rw [l]
     unfold EM
     dsimp only
     rw [d]
     rfl
   cases a:fJ r.s.c r.s.run p.g with
   | none=>
    show RK s (UY r p _)
    cases sX r.s.c r.s.now r.s.run p.g with
    | none=>exact k
    | some n=>exact ⟨k.row,k.run⟩
   | some ids=>
    obtain ⟨_,e,_,f,_⟩:=xJ o.base h b a
    exact (k.evic o h e f).admR o (h.evic o.base e f)
theorem EY {s:Sta} (o:OkS s):∀ (L:List Pn) (r:Rd),JN s r L->RK s r->RK s (L.foldl cG r)
 | [],_,_,k=>k
 | p::L,r,h,k=>EY o L (cG r p) (E1 o.base r p L h) (k.look o h.1)
theorem OkS.round {s:Sta} (o:OkS s) (hl:LtF s.hist):OkS (eW s).s:=by
 have hst:=(o.st hl).run.start
 have h1:=(mQ o.base (uQ s) _ hst).1
 have f:=EY o (uQ s) _ hst ⟨o.row,o.run⟩
 have e:(eW s).s={s with pend:=(eW s).s.pend,run:=(eW s).s.run}:=by
  have a:=h1.c
  have b:=h1.now
  have c:=h1.nxt
  have d:=h1.hist
  change (eW s).s.c=s.c at a
  change (eW s).s.now=s.now at b
  change (eW s).s.nxt=s.nxt at c
  change (eW s).s.hist=s.hist at d
  rw [<-a,<-b,<-c,<-d]
 rw [e]
 refine o.part (rest:=[]) ?_ f.row f.run
 rw [Bm]
 exact h1.perm
theorem N7 {s:Sta} (o:OkS s) (hl:LtF s.hist):(eW s).s.hist=s.hist/\(eW s).s.nxt=s.nxt/\(eW s).s.c=s.c/\(eW s).s.now=s.now:=by
 have h1:=(mQ o.base (uQ s) _ (o.st hl).run.start).1
 exact ⟨h1.hist,h1.nxt,h1.c,h1.now⟩
theorem aFH (h b:List Nat) (n half:Int):LtF (tkL h b n half):=by
 unfold tkL
 have key:∀ (l:List Nat) (i:Nat),LtF (lV (tkS b n half) l i):=fun l=>by
  induction l with
  | nil=>intro i x a;cases a
  | cons y l c=>
   intro i x a
   rcases Aj.1 a with rfl | a
   .unfold tkS
    split
    .exact AF _ _
    .exact H5 _ _
   .exact c (i+1) x a
 exact key h 0
theorem OkS.tick {s:Sta} (o:OkS s) (n:Int):OkS (gZ s n).1/\(gZ s n).1.nxt=s.nxt:=by
 unfold gZ
 split
 .exact ⟨o,rfl⟩
 .split
  .exact ⟨o,rfl⟩
  .have c:=o.wo fun x=>decide (s.now+n<dN x)
   have g:=o.now
   refine ⟨⟨c.head,⟨by show 0<=s.now+n;omega,by show s.now+n<=_;omega⟩,c.nxt,?_,c.few,c.row,fun x i=>?_,c.ids,c.seqs,⟨fun r h=>?_,c.run.plc,c.run.hst,c.run.quo⟩⟩,rfl⟩
   .show (tkL _ _ _ _).length=_
    unfold tkL
    rw [iE]
    exact o.hist
   .obtain ⟨a,b,d,e,f⟩:=c.gang x i
    exact ⟨a,b,d,e,by show x.at'<=s.now+n;have f:x.at'<=s.now:=f;omega⟩
   .obtain ⟨a,b,d,e⟩:=c.run.time r h
    have j:=(Dt.1 h).2
    exact ⟨a,by show r.st<=s.now+n;have b:r.st<=s.now:=b;omega,of_decide_eq_true j,e⟩
theorem OkS.conf {s:Sta} (o:OkS s) {c:Con} (d:bC c=0) (h:¬ 0<s.pend.length+s.run.length):OkS {s with c:=c,hist:=Ah c.ns.length 0}:=by
 have hp:s.pend=[]:=Cf.1 o_
 have b:s.run=[]:=Cf.1 o_
 obtain ⟨g,now,nxt,pend,run,hist⟩:=s
 dsimp only at hp b
 subst hp b
 refine ⟨.inr d,o.now,o.nxt,by simp,by simp,Cz,fun x e=>(by cases e),Gh,Gh,⟨fun r b=>(by cases b),fun r b=>(by cases b),?_,ZM d⟩⟩
 have key:∀ p:V3->Int,(∀ v,aH v=true->0<=p v)->rC p c []:=fun p a j f=>a _ (JE d f)
 exact ⟨key _ fun _ a=>(bM a).1.1,key _ fun _ a=>(bM a).2.1.1,key _ fun _ a=>(bM a).2.2.1⟩
theorem F9 {a:Int} {l:List Pn} (h:jF a l<0):∀ p∈l,p.g.id≠a:=by
 rcases IN a l with ⟨h1,_⟩ | ⟨A,p,B,_,_,h1⟩
 .exact h1
 .omega
theorem OkS.submit {s:Sta} (o:OkS s) (m:s.nxt<1099511627776) (g:Gan):OkS (cM s g).1/\(cM s g).1.nxt<=s.nxt+1/\s.nxt<=(cM s g).1.nxt:=by
 unfold cM
 iterate 4 (split;· exact ⟨o,by show s.nxt<=s.nxt+1;omega,Di _⟩)
 rename_i h1 n h3 p
 have h1:dQ s.c g=0:=Dm.1 h1
 refine ⟨?_,Di _,by show s.nxt<=s.nxt+1;omega⟩
 have hp:=mS s.pend ⟨g,s.nxt,s.now⟩
 have h:(oB s.pend ⟨g,s.nxt,s.now⟩++s.run.map Rn.pn).Perm (⟨g,s.nxt,s.now⟩::(s.pend++s.run.map Rn.pn)):=Fh _ hp
 have i:=o.now
 have k:=o.nxt
 refine ⟨o.head,o.now,⟨by show 1<=s.nxt+1;omega,by show s.nxt+1<=_;omega⟩,o.hist,?_,R5 o.row fun x f e=>?_,fun x f=>?_,?_,?_,o.run⟩
 .have:=hp.length_eq
  rw [Bt] at this
  show (oB s.pend _).length+s.run.length<=32
  omega
 .have:=(o.gang x (Cd _ f)).2.2.1
  have e:x.seq=s.nxt:=e
  omega
 .rcases Aj.1 (h.mem_iff.1 f) with rfl | f
  .refine ⟨h1,by cases l:(bX s.c [] g).isNone with | true=>exact absurd l h3 | false=>rfl,⟨by show 0<=s.nxt;omega,by show s.nxt<s.nxt+1;omega⟩,i.1,Di _⟩
  .obtain ⟨a,b,d,e⟩:=o.gang x f
   exact ⟨a,b,⟨d.1,by show x.seq<s.nxt+1;omega⟩,e⟩
 .refine ((h.map fun x=>x.g.id).nodup_iff).2 (Bp.2 ⟨fun hm=>?_,o.ids⟩)
  obtain ⟨x,f,e⟩:=Bb.1 hm
  have e:x.g.id=g.id:=e
  rcases Ao.1 f with f | f
  .exact F9 o_ x f e
  .obtain ⟨r,j,rfl⟩:=Bb.1 f
   have:=tF s.run 0 r j e
   omega
 .refine ((h.map fun x=>x.seq).nodup_iff).2 (Bp.2 ⟨fun hm=>?_,o.seqs⟩)
  obtain ⟨x,f,e⟩:=Bb.1 hm
  have:=(o.gang x f).2.2.1
  have e:x.seq=s.nxt:=e
  omega
structure OkT (s:Sta):Prop where
 ok:OkS s
 lt:LtF s.hist
theorem OkT.apply {s:Sta} (o:OkT s) (d:s.nxt<1099511627776) (x:Cmd):OkT (bP s x).1/\(bP s x).1.nxt<=s.nxt+1/\s.nxt<=(bP s x).1.nxt:=by
 have same:OkT s/\s.nxt<=s.nxt+1/\s.nxt<=s.nxt:=⟨o,by omega,Di _⟩
 unfold bP
 split
 .exact same
 split
 .split
  .exact same
  .rename_i e
   split
   .exact same
   .rename_i c
    refine ⟨⟨o.ok.conf (Dm.1 e) c,fun y b=>?_⟩,same.2⟩
    have:=List.eq_of_mem_replicate b
    omega
 split
 .obtain ⟨h1,a⟩:=o.ok.submit d x.g
  refine ⟨⟨h1,?_⟩,a⟩
  have:(cM s x.g).1.hist=s.hist:=by
   unfold cM
   iterate 4 (split;· rfl)
   rfl
  rw [this]
  exact o.lt
 split
 .obtain ⟨h1,a⟩:=o.ok.tick x.n
  refine ⟨⟨h1,?_⟩,by rw [a];exact same.2⟩
  unfold gZ
  split
  .exact o.lt
  .split
   .exact o.lt
   .exact aFH _ _ _ _
 split
 .obtain ⟨h1,a,_⟩:=N7 o.ok o.lt
  refine ⟨⟨o.ok.round o.lt,?_⟩,?_⟩
  .show LtF (eW s).s.hist
   rw [h1]
   exact o.lt
  .show (eW s).s.nxt<=_/\_<=(eW s).s.nxt
   rw [a]
   exact same.2
 split
 .exact ⟨⟨o.ok.wo _,o.lt⟩,same.2⟩
 split
 .exact same
 .exact ⟨⟨o.ok.take _,o.lt⟩,same.2⟩
def two (a:Int) (b:Int) (x:Rn):Bool:=!((x.g.id==a)||(x.seq==b))
structure FairP (s:Sta):Prop where
 few:jD s.c s.now s.run=1
 pend:s.pend.length<=32
 row:yU s.pend=true
 hist:s.hist.length=s.c.ns.length
 gang:∀ p∈s.pend,dA s.c.ns p.g≠0/\0<=p.at'/\p.at'<=s.now
 two:∀ p∈s.pend,∀ x∈s.run,x.g.id≠p.g.id/\x.seq≠p.seq
 once:s.run.Pairwise fun a b=>a.g.id≠b.g.id/\a.seq≠b.seq
structure FairS (s:Sta):Prop where
 siz:SizOK s.c
 chk:dP s.c=true\/bC s.c=0
 now:0<=s.now/\s.now<=1099511627776
 nxt:1<=s.nxt/\s.nxt<=1099511627776
 few:s.pend.length+s.run.length<=32
 hist:s.hist.length=s.c.ns.length
 row:Srt s.pend
 ids:((s.pend++s.run.map Rn.pn).map fun x=>x.g.id).Nodup
 seqs:((s.pend++s.run.map Rn.pn).map fun x=>x.seq).Nodup
 need:∀ x∈s.pend++s.run.map Rn.pn,NeedOK x.g
 at':∀ p∈s.pend,0<=p.at'/\p.at'<=s.now
 hs:∀ x∈s.run,x.hs.length<=16
theorem FairS.base {s:Sta} (h:FairS s):Base s where
 c:=⟨by have:=h.siz.ns;omega,by have:=h.siz.hs;omega⟩
 ids:=h.ids
 seqs:=h.seqs
 few:=by rw [Bo,Ck];have:=h.few;omega
 gang x hx:=by
  have hn:=h.need x hx
  have:=hn.pods
  have:=hn.id
  exact ⟨by omega,hn.v,by omega⟩
theorem FairS.sm {s:Sta} (h:FairS s):Sm s.run:=⟨by have:=h.few;omega,fun x a=>by have:=h.hs x a;omega⟩
theorem FairS.st {s:Sta} (h:FairS s) (hl:LtF s.hist):StOK s:=by
 have h1:=h.siz.ns
 have g:=h.siz.hs
 have h3:=h.siz.half
 have f:=h.siz.age
 have e:=h.hist
 have d:=h.few
 have b:=h.nxt
 have a:=h.seqs
 rw [Bl,Ax] at a
 exact ⟨h.base.c,⟨h.base,⟨by omega,by omega,by omega,h.sm,by omega⟩,⟨h.base.c,h1,hl,by omega,h.now,by omega⟩,fun p hp=>(h.at' p hp).1,J2 s a.1⟩,by omega,by omega⟩
theorem FairS.tick {s:Sta} (h:FairS s) (n:Int):FairS (gZ s n).1:=by
 unfold gZ
 split
 .exact h
 .split
  .exact h
  .have c:=h.now
   have a:(atL s.run (s.now+n)).Sublist s.run:=Gb
   have hm:(s.pend++(atL s.run (s.now+n)).map Rn.pn).Sublist (s.pend++s.run.map Rn.pn):=List.Sublist.append (Hg _) (a.map _)
   refine ⟨h.siz,h.chk,⟨by show 0<=s.now+n;omega,by show s.now+n<=_;omega⟩,h.nxt,?_,?_,h.row,h.ids.sublist (hm.map _),h.seqs.sublist (hm.map _),fun x b=>h.need x (hm.subset b),fun p hp=>⟨(h.at' p hp).1,by have:=(h.at' p hp).2;show p.at'<=s.now+n;omega⟩,fun x b=>h.hs x (a.subset b)⟩
   .have:=a.length_le
    have:=h.few
    show s.pend.length+(atL _ _).length<=32
    omega
   .show (tkL _ _ _ _).length=_
    unfold tkL
    rw [iE]
    exact h.hist
def Ev.eqb (x y:Ev):Bool:=(x.k==y.k)&&((x.id==y.id)&&((x.n==y.n)&&true))
def Pn.eqb (x y:Pn):Bool:=(x.g.id==y.g.id)&&((x.g.ten==y.g.ten)&&((x.g.pods==y.g.pods)&&((x.g.need.a==y.g.need.a)&&((x.g.need.b==y.g.need.b)&&((x.g.need.c==y.g.need.c)&&((x.g.run==y.g.run)&&((x.g.lev==y.g.lev)&&((x.g.pref==y.g.pref)&&((x.seq==y.seq)&&((x.at'==y.at')&&true))))))))))
def aE3:V3:=⟨4,4,4⟩
def aFw:Con:=⟨[⟨-1,1,aE3,V3.zero,V3.zero⟩],[⟨0,0,0,aE3⟩],1,0⟩
open Go.ChangeShapes Go.WideShapes Go.ChangeAt Go.RowKit
set_option maxRecDepth 100000
section
variable {N:Nat}
end
section
variable {N:Nat}
end
structure StaSm (s:Sta):Prop where
 c:s.c.sm
 pend:s.pend.length<=1048576
 run:Sm s.run
 hist:s.hist.length<=1048576
 fix:∀ x∈s.hist,x<18446744073709551616
structure CmSm (x:Cmd):Prop where
 c:x.c.sm
 n: -9223372036854775808<=x.n/\x.n<=9223372036854775807
section
variable {H:Type} {enc:TypeId×Value->H} {W:World} {r:Reach} {base b0:Nat} {spare:Nat->Bool} {held:Bool} {v:Value} {d:DataW H} {ps:List MemPlace}
end
end Go.Proofs.YtlanfgblaebddaaGreat
