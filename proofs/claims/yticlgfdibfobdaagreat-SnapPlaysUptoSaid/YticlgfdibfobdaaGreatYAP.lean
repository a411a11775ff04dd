/-
  Rounds and commands, as walks; the laws.
-/
import Derived.Test.YticlgfdibfobdaaGreatRows
import Derived.Test.YticlgfdibfobdaaGreatDAP
set_option linter.all false
set_option maxHeartbeats 1000000
open And renaming intro->Ad
open Bool renaming and_eq_true->Af,not_eq_true'->Cm,or_eq_true->Eg,true_and->Cd
open Decidable renaming not_not->Dz
open Exists renaming intro->Aw
open Go.Value renaming okWide->Ki
open Iff renaming rfl->Mo
open Int renaming le_refl->Dc,le_trans->Fb,mul_le_mul_of_nonneg_left->Jv,mul_nonneg->Ip,toNat_natCast->Cl
open List renaming Nodup->Kr,all_eq_true->Cj,any_eq_true->Ej,append_assoc->Aj,append_nil->Bo,cons_append->Je,count_eq_zero->Kj,count_le_length->Md,count_pos_iff->Km,drop->Hd,drop_eq_getElem_cons->Ac,drop_eq_nil_of_le->Ae,drop_zero->Cn,eraseIdx_append_of_length_le->Im,filter_cons->Ht,filter_cons_of_neg->Ek,filter_cons_of_pos->Em,filter_sublist->Hz,foldl_append->Iw,foldl_cons->Al,getElem?_eq_getElem->Aa,getElem?_eq_some_iff->Ab,getElem_mem->Bf,length->Js,length_append->Ar,length_cons->Ba,length_eq_zero_iff->Gy,length_filter_le->Fk,length_map->Cw,length_pos_iff->Fz,length_singleton->Mc,map_append->Bm,map_cons->Bk,map_map->Dm,mem_append->Ay,mem_append_left->Dh,mem_append_right->Cu,mem_cons->Ao,mem_cons_of_mem->Bb,mem_cons_self->Az,mem_filter->Dw,mem_map->Bu,mem_map_of_mem->Ci,mem_range->Gt,mem_reverse->Gu,mem_singleton->Dd,nodup_append->Br,nodup_cons->Bw,nodup_nil->Hn,pairwise_cons->Ce,pairwise_map->Ff,perm_append_comm->Gi,perm_middle->Fq,replicate->Ah,take->Fv,take_append_drop->Dj
open List.Pairwise renaming imp->Kz,nil->Ms
open List.Perm renaming append_left->Fl,append_right->Ga,refl->Fc,trans->Lx
open List.cons renaming inj->Fu
open Nat renaming le_add_right->Lk,le_refl->Bg,le_succ->Il,le_trans->Cs,mul_le_mul->Gf,sub_self->Lq,zero_add->Bp,zero_le->Bt
open Option renaming isSome_iff_exists->Cx
open UInt8 renaming ofNat->Gk
namespace Go.Proofs.YticlgfdibfobdaaGreat
open Go Go.AW Go.Proofs
set_option maxRecDepth 10000
theorem zqya0 {P:Prop} (h:P:=by
 refine cT (E:=(Er [] [120,132,133])) (fn:=Tryz.f72) (g:=.full 2 _ _) fun _=>?_
 exact zW):P:=h
theorem zqya1 {P:Prop} (h:P:=by
 exact c_ Tryz.f8 fun _=>zW):P:=h
theorem zqya2 {P:Prop} (h:P:=by
 refine cT (E:=(Eo [7] [])) (fn:=Tryz.f22) (g:=.pure _) fun _=>?_
 exact zW):P:=h
theorem zqya3 {P:Prop} (h:P:=by
 exact c_ Tryz.f121 fun _=>zW):P:=h
theorem zqya4 {P:Prop} (h:P:=by
 exact c_ Tryz.f21 fun _=>zW):P:=h
theorem zqya5 {P:Prop} (h:P:=by
 exact c_ Tryz.f14 fun _=>zW):P:=h
theorem zqya6 {P:Prop} (h:P:=by
 have h1:=C8.rcheck_any x 0 b
 obtain ⟨k,c,g,n⟩:=x
 dsimp only at a
 subst a
 exact zqya1):P:=h
theorem zqya7 {P:Prop} (h:P:=by
 refine aL ?_;conv=>whnf
 refine ⟨?_,trivial⟩;conv=>whnf
 refine aL ?_;conv=>whnf
 exact zW):P:=h
theorem zqya8 {P:Prop} (h:P:=by
 intro i k c
 rw [Ae o_,Ae o_] at c
 have c:true=r:=c
 subst c
 refine gV ?_
 exact zW):P:=h
theorem zqya9 {P:Prop} (h:P:=by
 unfold cO
 rw [C]
 unfold HO
 dsimp only
 rw [J]
 rfl):P:=h
theorem zqya10 {P:Prop} (h:P:=by
 have d:false=r:=d
 subst d
 exact zqya5):P:=h
structure StaSm' (s:Sta):Prop where
 ns:s.c.ns.length<=1048576
 hs:s.c.hs.length<=1048576
 pend:s.pend.length<=1048576
 run:Sm s.run
 hist:s.hist.length<=1048576
abbrev rdC (r:Rd) (run:AVal) (ge:Nat):List AVal:=[.slice 11 (nav r.s.c.ns) .no,.slice 6 (hav r.s.c.hs) .no,ii r.s.c.half,ii r.s.c.age,ii r.s.now,ii r.s.nxt,.slice 11 (pnv r.s.pend) .no,run,.slice 1 (fv r.s.hist) .no,.slice 3 (evv r.ev) (.own 1 ge),.bool r.head,ii r.start]
abbrev rdO (r:Rd) (run:AVal) (ge:Nat):AObj:=.cells 187 (rdC r run ge)
abbrev evT (g:Nat):AObj:=.tail g 3 84
abbrev ruT (g:Nat):AObj:=.tail g 14 127
abbrev ruV (l:List Rn) (k g:Nat):AVal:=.slice 14 (rav l) (.own k g)
def YP (r:Rd) (e:Ev):Rd:=⟨r.s,r.ev++[e],r.head,r.start⟩
theorem BA {n a:Nat} (h:n<=1048576) (b:a<=1000):BE (n+1) a:=Ad (by simp only [maxLen];omega) (Cs (Gf (show n+1<=1048577 by omega) b) d_)
def cP (id:Int) (x:Rn):Bool:=x.g.id==id
theorem BG (p:Rn->Bool):∀ (l:List Rn) (i:Nat),bB p l i= -1\/((i:Int)<=bB p l i/\bB p l i<(i:Int)+l.length)
 | [],i=>.inl rfl
 | x::l,i=>by
  unfold bB
  by_cases h:p x=true
  .rw [if_pos h]
   right
   simp
   omega
  .rw [if_neg h]
   rcases BG p l (i+1) with a | a
   .exact .inl a
   .right
    simp
    omega
abbrev evD (Q:Rd) (run:List Rn) (ids:List Int):Rd:=⟨{Q.s with run:=aC run ids},Q.ev,Q.head,Q.start⟩
abbrev evG (Q:Rd) (run:List Rn) (ids:List Int) (g:Nat):Goal:=.full 2 (.ret (.tup [])) [rdO (evD Q run ids) (ruV (aC run ids) 2 0) g,evT g,ruT 0]
theorem zN (l:List Pn) (p:Pn):(oQ l p).length=l.length+1:=by
 unfold oQ
 rw [Ar,Ar,Mc]
 have:=congrArg Js (Dj (Q2.putAt p.q (l.map Pn.q)) l)
 rw [Ar] at this
 omega
abbrev aEh:AObj:=.cells 31 [.slice 11 [] .nil,.slice 6 [] .nil,ii 0,ii 0,ii 0,ii 0,.slice 11 [] .nil,.slice 14 [] .nil,.slice 1 [] .nil]
theorem xV (run:List Rn):∀ (ids:List Int) (r:Rd),(ids.foldl (dY run) r).s.c=r.s.c/\(ids.foldl (dY run) r).s.now=r.s.now/\(ids.foldl (dY run) r).s.nxt=r.s.nxt/\(ids.foldl (dY run) r).s.hist=r.s.hist/\(ids.foldl (dY run) r).s.run=r.s.run/\(ids.foldl (dY run) r).head=r.head/\(ids.foldl (dY run) r).start=r.start/\(ids.foldl (dY run) r).s.pend.length=r.s.pend.length+ids.length/\(ids.foldl (dY run) r).ev.length=r.ev.length+ids.length
 | [],r=>⟨rfl,rfl,rfl,rfl,rfl,rfl,rfl,rfl,rfl⟩
 | id::ids,r=>by
  obtain ⟨a,b,c,d,e,f,g,h,i⟩:=xV run ids (dY run r id)
  have h1:(dY run r id).s.pend.length=r.s.pend.length+1:=zN _ _
  have j:(dY run r id).ev.length=r.ev.length+1:=by show (r.ev++[_]).length=_;simp
  rw [Al]
  refine ⟨a,b,c,d,e,f,g,?_,?_⟩
  .rw [h,h1,Ba];omega
  .rw [i,j,Ba];omega
structure LookPre (r:Rd) (p:Pn):Prop where
 c:r.s.c.sm
 run:Sm r.s.run
 pend:r.s.pend.length<=900000
 ev:r.ev.length<=900000
 pods:0<=p.g.pods/\p.g.pods<=16
 start:r.head=false->r.start=0
 cho:cE r.s.c r.s.run p.g=none->∀ ids,fT r.s.c r.s.run p.g=some ids->ids≠[]/\ids.length<=100000/\∀ id∈ids,0<=bB (cP id) r.s.run 0
abbrev r3O (r:Rd) (ge:Nat):AObj:=.cells 148 (rdC r (.slice 14 (rav r.s.run) .no) ge)
abbrev r3S (r:Rd) (ge:Nat):List AObj:=[r3O r ge,evT ge]
theorem DH (l:List Pn) (a:Int) (hl:l.length<=1000000):aA Tryz.prog 27 [.slice 11 (pnv l) .no,ii a] [] (.ret (.tup [.slice 11 (pnv (fO l a)) .no,.bool (!decide (jB a l<0))])) []:=by
 have h:=Q2.takeref_ok (l.map Pn.q) a (by simpa using hl)
 rw [<-aBs,wC,wC] at h
 exact h
theorem IL (l:List Pn) (p:Pn) (hl:l.length<=1000000):aA Tryz.prog 66 [.slice 11 (pnv l) .no,p.av] [] (.ret (.slice 11 (pnv (oQ l p)) .no)) []:=by
 have h:=Q2.putref_ok (l.map Pn.q) p.q (by simpa using hl)
 rw [<-XZ,wC,wC] at h
 exact h
theorem aGd {n a:Nat} (h:n<=1048576) (b:a<=1000):BE n a:=Ad (by simp only [maxLen];omega) (Cs (Gf h b) d_)
set_option maxHeartbeats 1000000 in
theorem DK (r:Rd) (p:Pn) (fl:Int) (hs:List Int) (hp:r.s.pend.length<=1000000) (d:r.ev.length<=1000000) (i:r.s.run.length<=1000000):
  aA Tryz.prog 145 [.ref 0 0,p.av,ii fl,.slice 1 (iv hs) .no] (r3S r 0) (.ret (.tup [])) (r3S (C0 r p fl hs) 1):=by
 obtain ⟨s,ev,head,start⟩:=r
 have j:=DH s.pend p.g.id hp
 have b:(evv ev).length<=1048576:=by simp;dsimp only at d;omega
 have a:(rav s.run).length<=1048576:=by simp;dsimp only at i;omega
 have c:rav (s.run++[⟨p.g,p.seq,p.at',s.now,fl,hs⟩])=rav s.run++[Rn.av ⟨p.g,p.seq,p.at',s.now,fl,hs⟩]:=by simp
 have e:evv (ev++[⟨1,p.g.id,fl⟩])=evv ev++[Ev.av ⟨1,p.g.id,fl⟩]:=by simp
 unfold C0 r3S r3O rdC
 dsimp only
 rw [c,e]
 generalize fO s.pend p.g.id=pq at *
 clear c e d i hp
 refine cT (E:=(Er [] [21,39,49,50,51,52,64,65])) (fn:=Tryz.f145) (g:=.full 2 _ _) fun _=>?_
 repeat' first | (refine gN (hEr [] [21,39,49,50,51,52,64,65]) ?_;conv=>whnf) | refine .pure _ [] j ?_ | refine Ad (aGd a d_) ?_ | refine Ad (BA a d_) ?_ | refine Ad (BA b d_) ?_ | exact rfl | refine aY ?_ | refine aN ?_ | refine aT fun h=>?_ | refine aF fun h=>?_ | refine ⟨fun h=>?_,fun h=>?_⟩ | refine aJ ?_ | refine ⟨_,rfl,?_⟩ | refine aD ?_ | fail
 refine ⟨[],[0,1],⟨rfl,rfl⟩,rfl,rfl⟩
noncomputable abbrev EQ:Func:=Tryz.f147
def I9 (q:Rd) (x:Pn):Rd:=⟨{q.s with pend:=oQ q.s.pend x},q.ev,q.head,q.start⟩
def xD (id:Int) (q:Rd) (x:Rn):Rd:=if cP id x=true then I9 q x.pn else q
abbrev aFp (ids:List Int) (i:Nat):List (Nat×AVal):=[(0,.ref 0 0),(1,.slice 1 (iv ids) .no),(4,ii i)]
abbrev aFo (R:Rd):Goal:=.full 2 (.ret (.tup [])) (r3S R 1)
set_option maxHeartbeats 2000000 in
theorem aHa (ids:List Int) (z:ids.length<=1048576) (R:Rd) (run:List Rn) (hs:Sm run) (i:Nat) (id:Int) (get:(iv ids)[i]? =some (ii id)) (Q:Rd) (w:Q.ev.length<=1000000)
  (next:To (Er [] [56,68,69]) EQ (aFo R) (.head (stk EQ 0) (aFp ids (i+1)) (r3S (YP Q ⟨2,id,0⟩) 1))) (g:Nat) (l:g=0\/g=1):∀ (m k:Nat) (q:Rd),k+m=run.length->q.s.run=run->(run.drop k).foldl (xD id) q=Q->q.s.pend.length+m<=1000000->
  To (Er [] [56,68,69]) EQ (aFo R) (.head (stk EQ 1) (aFp ids i++[(5,ii k)]) (r3S q g)):=by
 have y:i<ids.length:=by have:=(Ab.1 get).1;simpa using this
 have u:(iv ids).length=ids.length:=by simp
 intro m
 induction m with
 | zero=>
  intro k q p b a _
  rw [Ae o_] at a
  have a:q=Q:=a
  subst a
  have h:(rav q.s.run).length=k:=by rw [b];simp;omega
  have o:(evv q.ev).length<=1048576:=by simp;omega
  have n:evv (q.ev++[⟨2,id,0⟩])=evv q.ev++[Ev.av ⟨2,id,0⟩]:=by simp
  unfold r3S r3O rdC YP at next
  dsimp only at next
  rw [n] at next
  have t:=hs.1
  clear n b
  rcases l with rfl | rfl
  all_goals
   refine gV ?_
   exact zW
 | succ m d=>
  intro k q p b a hp
  have c:k<run.length:=o_
  rw [Ac c,Al] at a
  have r:(rav q.s.run)[k]? =some run[k].av:=by rw [b];exact dH c
  have h:(rav q.s.run).length=run.length:=by rw [b];simp
  have t:=hs.1
  generalize run[k]=x at a r
  unfold xD at a
  cases e:cP id x with
  | true=>
   rw [if_pos e] at a
   have v:=IL q.s.pend x.pn o_
   have f:=d (k+1) (I9 q x.pn) o_ b a (by show (oQ _ _).length+m<=_;rw [zN];omega)
   have j:x.pn=⟨x.g,x.seq,x.at'⟩:=rfl
   unfold r3S r3O rdC I9 at f
   dsimp only at f
   generalize oQ q.s.pend x.pn=pq at *
   rw [j] at v
   unfold cP at e
   clear d next a
   rcases l with rfl | rfl
   all_goals
    refine gV ?_
    exact zW
  | false=>
   rw [if_neg (by rw [e];decide)] at a
   have f:=d (k+1) q o_ b a o_
   unfold cP at e
   clear d next a
   rcases l with rfl | rfl
   all_goals
    refine gV ?_
    exact zW
theorem DR (id:Int):∀ (l:List Rn) (q:Rd),(∀ x∈l,cP id x=false)->l.foldl (xD id) q=q
 | [],_,_=>rfl
 | x::l,q,h=>by
  have e:xD id q x=q:=by unfold xD;rw [if_neg (by rw [h x (Az ..)];decide)]
  rw [Al,e]
  exact DR id l q fun y a=>h y (Bb _ a)
theorem AB (id:Int):∀ (l:List Rn) (i:Nat) (q:Rd),(l.map fun x=>x.g.id).Nodup->0<=bB (cP id) l i->l.foldl (xD id) q=I9 q (aU l (bB (cP id) l i-i).toNat).pn
 | [],i,q,_,h=>by have h:(0:Int)<= -1:=h;omega
 | x::l,i,q,hn,h=>by
  rw [Bk,Bw] at hn
  rw [Al]
  unfold bB at h⊢
  by_cases a:cP id x=true
  .rw [if_pos a] at h⊢
   have e:((i:Int)-i).toNat=0:=o_
   rw [e]
   have b:xD id q x=I9 q x.pn:=by unfold xD;rw [if_pos a]
   rw [b]
   refine DR id l _ fun y f=>?_
   unfold cP at a⊢
   have a:x.g.id=id:=by simpa using a
   have:y.g.id≠x.g.id:=fun d=>hn.1 (d▸Ci f)
   simp
   omega
  .rw [if_neg a] at h⊢
   have b:xD id q x=q:=by unfold xD;rw [if_neg a]
   rw [b,AB id l (i+1) q hn.2 h]
   rcases BG (cP id) l (i+1) with c | c
   .omega
   .have e:(bB (cP id) l (i+1)-i).toNat=(bB (cP id) l (i+1)-((i+1:Nat):Int)).toNat+1:=o_
    rw [e]
    rfl
theorem aGi (run:List Rn) (a:(run.map fun x=>x.g.id).Nodup) (q:Rd) (id:Int) (h:0<=bB (cP id) run 0):YP (run.foldl (xD id) q) ⟨2,id,0⟩=dY run q id:=by
 rw [AB id run 0 q a h]
 have e:(bB (cP id) run 0-((0:Nat):Int)).toNat=(bB (cP id) run 0).toNat:=o_
 rw [e]
 rfl
set_option maxHeartbeats 2000000 in
theorem aFu (run:List Rn) (hs:Sm run) (k:(run.map fun x=>x.g.id).Nodup) (ids:List Int) (n:ids.length<=1048576) (f:∀ id∈ids,0<=bB (cP id) run 0) (R Q:Rd) (e:R=⟨{Q.s with run:=aC run ids},Q.ev,Q.head,Q.start⟩):∀ (m i:Nat) (q:Rd) (g:Nat),i+m=ids.length->(g=1\/g=0/\0<m)->q.s.run=run->(ids.drop i).foldl (dY run) q=Q->q.s.pend.length+m+run.length<=1000000->q.ev.length+m<=1000000->
  To (Er [] [56,68,69]) EQ (aFo R) (.head (stk EQ 0) (aFp ids i) (r3S q g)):=by
 have t:(iv ids).length=ids.length:=by simp
 intro m
 induction m with
 | zero=>
  intro i q g r l d a hp p
  rw [Ae o_] at a
  have a:q=Q:=a
  subst a
  have v:=kU q.s.run (by rw [d];exact hs) ids n
  rw [<-d] at e
  generalize aC q.s.run ids=rn at *
  subst e
  obtain rfl:g=1:=o_
  refine gV ?_
  exact zW
 | succ m j=>
  intro i q g r l d a hp p
  have b:i<ids.length:=o_
  rw [Ac b,Al] at a
  have c:=f _ (Bf b)
  have get:(iv ids)[i]? =some (ii ids[i]):=by simp [b]
  generalize ids[i]=id at a c get
  have h:=aGi run k q id c
  have y:(dY run q id).s.pend.length=q.s.pend.length+1:=zN _ _
  have w:(dY run q id).ev.length=q.ev.length+1:=by show (q.ev++[_]).length=_;simp
  have next:=j (i+1) (dY run q id) 1 o_ (.inl rfl) d a o_ o_
  rw [<-h] at next
  have u:(run.foldl (xD id) q).ev.length=q.ev.length:=by rw [AB id run 0 q k c];rfl
  have o:=aHa ids n R run hs i id get _ o_ next g o_ run.length 0 q o_ d rfl o_
  clear next j h a
  rcases l with rfl | ⟨rfl,_⟩
  all_goals
   refine gV ?_
   exact zW
theorem SV (r:Rd) (ids:List Int) (hs:Sm r.s.run) (d:(r.s.run.map fun x=>x.g.id).Nodup) (c:ids.length<=1048576) (b:ids≠[]) (a:∀ id∈ids,0<=bB (cP id) r.s.run 0) (hp:r.s.pend.length+ids.length+r.s.run.length<=1000000) (e:r.ev.length+ids.length<=1000000):
  aA Tryz.prog 147 [.ref 0 0,.slice 1 (iv ids) .no] (r3S r 0) (.ret (.tup [])) (r3S (kC r ids) 1):=by
 have h:=aFu r.s.run hs d ids c a (kC r ids) _ rfl ids.length 0 r 0 o_ (.inr ⟨rfl,Fz.2 b⟩) rfl rfl hp e
 generalize kC r ids=R at *
 refine cT (E:=(Er [] [56,68,69])) (fn:=Tryz.f147) (g:=.full 2 _ _) fun _=>?_
 exact zW
abbrev CO (r:Rd) (p:Pn) (O:List AObj):Prop:=aA Tryz.prog 72 [.ref 0 0,p.av] (r3S r 0) (.ret (.tup [])) O
abbrev vZ (c:Con) (run:List Rn) (p:Pn) (Q:Option (Int×List Int)):Prop:=aA Tryz.prog 135 [c.av,.slice 14 (rav run) .no,p.g.av] [] (.ret (fdA Q)) []
abbrev aEm (s:Sta) (st:Int) (p:Pn) (b:Bool):Prop:=aA Tryz.prog 144 [ii s.now,p.g.av,ii st] [] (.ret (.bool b)) []
abbrev XP (s:Sta) (p:Pn) (Q:Option (List Int)):Prop:=aA Tryz.prog 146 [s.c.av,.slice 14 (rav s.run) .no,p.g.av] [] (.ret (chR Q)) []
abbrev aEl (s:Sta) (p:Pn) (Q:Option Int):Prop:=aA Tryz.prog 148 [s.c.av,ii s.now,.slice 14 (rav s.run) .no,p.g.av] [] (.ret (stA Q)) []
abbrev XU (r:Rd) (p:Pn) (fl:Int) (hs:List Int) (R:Rd):Prop:=aA Tryz.prog 145 [.ref 0 0,p.av,ii fl,.slice 1 (iv hs) .no] (r3S r 0) (.ret (.tup [])) (r3S R 1)
abbrev aIa (r:Rd) (ids:List Int) (R:Rd):Prop:=aA Tryz.prog 147 [.ref 0 0,.slice 1 (iv ids) .no] (r3S r 0) (.ret (.tup [])) (r3S R 1)
theorem aIm (s:Sta) (ev:List Ev) (st:Int) (p:Pn) (fl:Int) (hs:List Int) (R:Rd) (h1:vZ s.c s.run p (some (fl,hs))) (a:XU ⟨s,ev,false,st⟩ p fl hs R):CO ⟨s,ev,false,st⟩ p (r3S R 1):=by
 exact zqya0
theorem aIl (s:Sta) (ev:List Ev) (st:Int) (p:Pn) (fl:Int) (hs:List Int) (R:Rd) (h1:vZ s.c s.run p (some (fl,hs))) (hm:aEm s st p true) (a:XU ⟨s,ev,true,st⟩ p fl hs R):CO ⟨s,ev,true,st⟩ p (r3S R 1):=by
 exact zqya0
theorem aIj (s:Sta) (ev:List Ev) (st:Int) (p:Pn) (x:Int×List Int) (h1:vZ s.c s.run p (some x)) (hm:aEm s st p false):CO ⟨s,ev,true,st⟩ p (r3S ⟨s,ev,true,st⟩ 0):=by
 exact zqya0
theorem aIk (s:Sta) (ev:List Ev) (st:Int) (p:Pn) (h1:vZ s.c s.run p none):CO ⟨s,ev,true,st⟩ p (r3S ⟨s,ev,true,st⟩ 0):=by
 exact zqya0
set_option maxHeartbeats 1000000 in
theorem aIi (s:Sta) (ev:List Ev) (st:Int) (p:Pn) (h1:vZ s.c s.run p none) (a:XP s p none) (h3:aEl s p none):CO ⟨s,ev,false,st⟩ p (r3S ⟨s,ev,false,st⟩ 0):=by
 exact zqya0
set_option maxHeartbeats 1000000 in
theorem aIh (s:Sta) (ev:List Ev) (st:Int) (p:Pn) (n:Int) (e:ev.length<=1000000) (h1:vZ s.c s.run p none) (d:XP s p none) (h3:aEl s p (some n)):CO ⟨s,ev,false,st⟩ p (r3S ⟨s,ev++[⟨4,p.g.id,n⟩],true,n⟩ 1):=by
 have b:(evv ev).length<=1048576:=by simp;omega
 have a:evv (ev++[⟨4,p.g.id,n⟩])=evv ev++[Ev.av ⟨4,p.g.id,n⟩]:=by simp
 unfold CO r3S r3O rdC
 dsimp only
 rw [a]
 exact zqya0
set_option maxHeartbeats 2000000 in
theorem aIg (s:Sta) (ev:List Ev) (st:Int) (p:Pn) (ids:List Int) (R a:Rd) (fl:Int) (hs:List Int) (h1:vZ s.c s.run p none) (d:XP s p (some ids)) (h3:aIa ⟨s,ev,false,st⟩ ids R) (b:vZ s.c R.s.run p (some (fl,hs))) (e:XU R p fl hs a):CO ⟨s,ev,false,st⟩ p (r3S a 1):=by
 exact zqya0
theorem uI (l:List Pn) (p:Pn):(oQ l p).Perm (p::l):=by
 unfold oQ
 have h:=Dj (Q2.putAt p.q (l.map Pn.q)) l
 generalize Fv (Q2.putAt p.q (l.map Pn.q)) l=A at *
 generalize Hd (Q2.putAt p.q (l.map Pn.q)) l=B at *
 rw [<-h,Aj]
 exact Fq
theorem A3 (a:Int):∀ (l:List Pn) (i:Nat),((∀ p∈l,p.g.id≠a)/\Q2.idx (fun x=>x.id==a) (l.map Pn.q) i= -1)\/∃ A p B,l=A++p::B/\p.g.id=a/\Q2.idx (fun x=>x.id==a) (l.map Pn.q) i=((i+A.length:Nat):Int)
 | [],i=>.inl ⟨fun p hp=>(by cases hp),rfl⟩
 | p::l,i=>by
  rw [Bk]
  unfold Q2.idx
  by_cases h:p.g.id=a
  .right
   refine ⟨[],p,l,rfl,h,?_⟩
   have e:(p.q.id==a)=true:=by show (p.g.id==a)=true;rw [h];simp
   simp [e]
  .have e:(p.q.id==a)=false:=by show (p.g.id==a)=false;simpa using h
   simp only [e]
   rcases A3 a l (i+1) with ⟨h1,c⟩ | ⟨A,x,B,h1,c,h3⟩
   .left
    refine ⟨fun q b=>?_,c⟩
    rcases Ao.1 b with rfl | b
    .exact h
    .exact h1 q b
   .right
    refine ⟨p::A,x,B,by rw [h1];rfl,c,?_⟩
    refine h3.trans ?_
    rw [Ba]
    congr 1
    omega
theorem GV (a:Int) (l:List Pn):((∀ p∈l,p.g.id≠a)/\jB a l= -1)\/∃ A p B,l=A++p::B/\p.g.id=a/\jB a l=(A.length:Int):=by
 have h:=A3 a l 0
 simp only [Bp] at h
 exact h
theorem yQ {l:List Pn} {p:Pn} (hp:p∈l) (d:(l.map fun x=>x.g.id).Nodup):(p::fO l p.g.id).Perm l/\∀ q∈l,q≠p->q∈fO l p.g.id:=by
 rcases GV p.g.id l with ⟨h,_⟩ | ⟨A,x,B,h1,i,h3⟩
 .exact absurd rfl (h p hp)
 .have j:x=p:=by
   subst h1
   rw [Bm,Bk,Br] at d
   obtain ⟨_,f,b⟩:=d
   rw [Bw] at f
   rcases Ay.1 hp with hp | hp
   .exact absurd i.symm (b _ (Ci hp) _ (Az ..))
   .rcases Ao.1 hp with hp | hp
    .exact hp.symm
    .exact absurd (i▸Ci hp) f.1
  subst j
  have e:fO l x.g.id=A++B:=by
   unfold fO
   rw [if_neg o_,h3,h1]
   show (A++x::B).eraseIdx A.length=_
   rw [Im (Bg _),Lq]
   rfl
  rw [e]
  refine ⟨by rw [h1];exact Fq.symm,fun q a c=>?_⟩
  rw [h1] at a
  rcases Ay.1 a with a | a
  .exact Dh _ a
  .rcases Ao.1 a with a | a
   .exact absurd a c
   .exact Cu _ a
theorem BF {id:Int} (l:List Rn):∀ (i:Nat) (x:Rn),x∈l->x.g.id=id->0<=bB (cP id) l i:=by
 induction l with
 | nil=>intro i x a;cases a
 | cons y l c=>
  intro i x a h
  unfold bB
  by_cases b:cP id y=true
  .rw [if_pos b];omega
  .rw [if_neg b]
   rcases Ao.1 a with e | a
   .exact absurd (by unfold cP;rw [<-e];simpa using h) b
   .exact c (i+1) x a h
theorem T8 {id:Int} (l:List Rn):∀ (i:Nat),0<=bB (cP id) l i->aU l (bB (cP id) l i-i).toNat∈l/\(aU l (bB (cP id) l i-i).toNat).g.id=id:=by
 induction l with
 | nil=>intro i h;have h:(0:Int)<= -1:=h;omega
 | cons y l c=>
  intro i h
  unfold bB at h⊢
  by_cases a:cP id y=true
  .rw [if_pos a]
   have e:((i:Int)-i).toNat=0:=o_
   rw [e]
   unfold cP at a
   exact ⟨Az ..,(by simpa using a:y.g.id=id)⟩
  .rw [if_neg a] at h⊢
   obtain ⟨h1,b⟩:=c (i+1) h
   rcases BG (cP id) l (i+1) with h3 | h3
   .omega
   .have e:(bB (cP id) l (i+1)-i).toNat=(bB (cP id) l (i+1)-((i+1:Nat):Int)).toNat+1:=o_
    rw [e]
    exact ⟨Bb _ h1,b⟩
def xOf (run:List Rn) (id:Int):Rn:=aU run (bB (cP id) run 0).toNat
theorem lO {run:List Rn} {id:Int} (h:0<=bB (cP id) run 0):xOf run id∈run/\(xOf run id).g.id=id:=by
 have a:=T8 run 0 h
 have e:(bB (cP id) run 0-((0:Nat):Int)).toNat=(bB (cP id) run 0).toNat:=o_
 rw [e] at a
 exact a
theorem EM (run:List Rn):∀ (ids:List Int) (r:Rd),(ids.foldl (dY run) r).s.pend.Perm (ids.map (fun id=>(xOf run id).pn)++r.s.pend)
 | [],r=>Fc _
 | id::ids,r=>by
  rw [Al,Bk]
  refine (EM run ids (dY run r id)).trans ?_
  have h:(dY run r id).s.pend=oQ r.s.pend (xOf run id).pn:=rfl
  rw [h]
  refine (Fl _ (uI _ _)).trans ?_
  exact Fq
theorem YI {l:List Rn} (h:nX l):(l.map fun x=>x.g.id).Nodup:=by
 unfold Kr
 rw [Ff]
 exact Kz (fun h=>h.1) h
theorem JH {run:List Rn} (k:nX run) {ids:List Int} (l:ids.Nodup) (c:∀ id∈ids,0<=bB (cP id) run 0):(ids.map (xOf run)++aC run ids).Perm run:=by
 have d:run.Nodup:=Kz (fun h e=>h.1 (by rw [e])) k
 have h1:(ids.map (xOf run)).Nodup:=by
  unfold Kr
  rw [Ff]
  refine List.Pairwise.imp_of_mem (fun {a b} j i hab e=>hab ?_) l
  rw [<-(lO (c a j)).2,<-(lO (c b i)).2,e]
 have m:(aC run ids).Nodup:=d.sublist Hz
 refine (List.perm_ext_iff_of_nodup ?_ d).2 fun x=>?_
 .refine Br.2 ⟨h1,m,fun a j b i e=>?_⟩
  obtain ⟨id,hid,rfl⟩:=Bu.1 j
  subst e
  exact (fZ.1 i).2 (by rw [(lO (c id hid)).2];exact hid)
 .constructor
  .intro h
   rcases Ay.1 h with h | h
   .obtain ⟨id,hid,rfl⟩:=Bu.1 h
    exact (lO (c id hid)).1
   .exact (fZ.1 h).1
  .intro h
   by_cases f:x.g.id∈ids
   .refine Dh _ (Bu.2 ⟨x.g.id,f,?_⟩)
    exact aCm k (lO (c _ f)).1 h (lO (c _ f)).2
   .exact Cu _ (fZ.2 ⟨h,f⟩)
structure Base (s:Sta):Prop where
 c:s.c.sm
 ids:((s.pend++s.run.map Rn.pn).map fun x=>x.g.id).Nodup
 seqs:((s.pend++s.run.map Rn.pn).map fun x=>x.seq).Nodup
 few:(s.pend++s.run.map Rn.pn).length<=39
 gang:∀ x∈s.pend++s.run.map Rn.pn,(0<=x.g.pods/\x.g.pods<=16)/\aM x.g.need=true/\x.g.id≠0
structure RCore (s:Sta) (r:Rd) (rest:List Pn):Prop where
 c:r.s.c=s.c
 now:r.s.now=s.now
 nxt:r.s.nxt=s.nxt
 hist:r.s.hist=s.hist
 perm:(r.s.pend++r.s.run.map Rn.pn).Perm (s.pend++s.run.map Rn.pn)
 sub:∀ p∈rest,p∈r.s.pend
 rn:rest.Nodup
 start:r.head=false->r.start=0
 hs:∀ x∈r.s.run,x.hs.length<=1048576
theorem RCore.few {s:Sta} {r:Rd} {rest:List Pn} (b:Base s) (h:RCore s r rest):r.s.pend.length+r.s.run.length<=39:=by
 have:=h.perm.length_eq
 have a:=b.few
 simp at this a
 omega
theorem RCore.sm {s:Sta} {r:Rd} {rest:List Pn} (b:Base s) (h:RCore s r rest):Sm r.s.run:=⟨by have:=h.few b;omega,h.hs⟩
theorem RCore.once {s:Sta} {r:Rd} {rest:List Pn} (b:Base s) (h:RCore s r rest):nX r.s.run:=by
 have h1:=((h.perm.map fun x=>x.g.id).nodup_iff).2 b.ids
 have a:=((h.perm.map fun x=>x.seq).nodup_iff).2 b.seqs
 rw [Bm,Br,Dm] at h1 a
 have h1:=h1.2.1
 have a:=a.2.1
 unfold Kr at h1 a
 rw [Ff] at h1 a
 exact h1.and a
theorem RCore.pids {s:Sta} {r:Rd} {rest:List Pn} (b:Base s) (h:RCore s r rest):(r.s.pend.map fun x=>x.g.id).Nodup:=by
 have h1:=((h.perm.map fun x=>x.g.id).nodup_iff).2 b.ids
 rw [Bm,Br] at h1
 exact h1.1
theorem RCore.gangP {s:Sta} {r:Rd} {rest:List Pn} (b:Base s) (h:RCore s r rest) {p:Pn} (hp:p∈r.s.pend):(0<=p.g.pods/\p.g.pods<=16)/\aM p.g.need=true/\p.g.id≠0:=
 b.gang p (h.perm.mem_iff.1 (Dh _ hp))
theorem RCore.gangR {s:Sta} {r:Rd} {rest:List Pn} (b:Base s) (h:RCore s r rest) {x:Rn} (a:x∈r.s.run):(0<=x.g.pods/\x.g.pods<=16)/\aM x.g.need=true/\x.g.id≠0:=
 b.gang x.pn (h.perm.mem_iff.1 (Cu _ (Ci a)))
theorem RCore.skip {s:Sta} {r:Rd} {p:Pn} {rest:List Pn} (h:RCore s r (p::rest)):RCore s r rest:=
 {h with sub:=fun q a=>h.sub q (Bb _ a),rn:=(Bw.1 h.rn).2}
theorem RCore.adm {s:Sta} {r:Rd} {p:Pn} {rest:List Pn} (b:Base s) (h:RCore s r (p::rest)) {fl:Int} {hs:List Int} (hl:hs.length<=1048576):RCore s (C0 r p fl hs) rest where
 c:=h.c
 now:=h.now
 nxt:=h.nxt
 hist:=h.hist
 perm:=by
  have hp:=(yQ (h.sub p (Az ..)) (h.pids b)).1
  show (fO r.s.pend p.g.id++(r.s.run++[_]).map Rn.pn).Perm _
  refine Lx ?_ h.perm
  rw [Bm,<-Aj]
  refine (Gi (l₂:=[p])).trans ?_
  rw [<-Aj]
  exact Ga _ hp
 sub q hq:=(yQ (h.sub p (Az ..)) (h.pids b)).2 q (h.sub q (Bb _ hq)) fun e=>(Bw.1 h.rn).1 (e▸hq)
 rn:=(Bw.1 h.rn).2
 start:=h.start
 hs x hx:=by
  rcases Ay.1 hx with hx | hx
  .exact h.hs x hx
  .rw [Dd.1 hx]
   exact hl
theorem RCore.evic {s:Sta} {r:Rd} {rest:List Pn} (b:Base s) (h:RCore s r rest) {ids:List Int} (l:ids.Nodup) (a:∀ id∈ids,0<=bB (cP id) r.s.run 0):RCore s (kC r ids) rest:=by
 obtain ⟨n,i,o,k,_,m,g,_,_⟩:=xV r.s.run ids r
 have hp:=EM r.s.run ids r
 refine ⟨n.trans h.c,i.trans h.now,o.trans h.nxt,k.trans h.hist,?_,fun p d=>hp.mem_iff.2 (Cu _ (h.sub p d)),h.rn,fun e=>?_,fun x j=>h.hs x (Dw.1 j).1⟩
 .show ((ids.foldl (dY r.s.run) r).s.pend++(aC r.s.run ids).map Rn.pn).Perm _
  refine Lx ?_ h.perm
  refine (Ga _ hp).trans ?_
  have f:=(JH (h.once b) l a).map Rn.pn
  rw [Bm,Dm] at f
  refine (Ga _ Gi).trans ?_
  rw [Aj]
  exact Fl _ f
 .show (ids.foldl (dY r.s.run) r).start=0
  rw [g]
  refine h.start ?_
  rw [<-m]
  exact e
theorem vD {s:Sta} {r:Rd} {rest:List Pn} (b:Base s) (h:RCore s r rest) {g:Gan} (j:cE r.s.c r.s.run g=none) {ids:List Int} (a:fT r.s.c r.s.run g=some ids):
  ids≠[]/\ids.Nodup/\ids.length<=39/\(∀ id∈ids,0<=bB (cP id) r.s.run 0)/\∃ x,cE r.s.c (aC r.s.run ids) g=some x:=by
 obtain ⟨_,h1,i,h3⟩:=wL a
 have hl:=aDY (h.once b) a
 have d:=h.few b
 refine ⟨fun e=>?_,h1,by omega,fun id hid=>?_,Cx.1 h3⟩
 .subst e
  unfold qW at h3
  rw [kS,j] at h3
  cases h3
 .obtain ⟨_,x,f,e,_⟩:=i id hid
  exact BF _ 0 x f e
theorem TP {s:Sta} {r:Rd} {p:Pn} {rest:List Pn} (b:Base s) (h:RCore s r (p::rest)):RCore s (cO r p) rest/\(cO r p).ev.length<=r.ev.length+40:=by
 have o:=(h.gangP b (h.sub p (Az ..))).1
 have a:=h.skip
 have j:∀ {q:Rd},RCore s q (p::rest)->RCore s (admR q p).1 rest/\(admR q p).1.ev.length<=q.ev.length+1:=fun {q} d=>by
  unfold admR
  cases k:cE q.s.c q.s.run p.g with
  | none=>exact ⟨d.skip,Il _⟩
  | some x=>
   have t:=BB o k
   obtain ⟨fl,hs⟩:=x
   unfold HO
   dsimp only
   split
   .exact ⟨d.skip,Il _⟩
   .exact ⟨d.adm b t,by show (q.ev++[_]).length<=_;simp⟩
 unfold cO
 split
 .exact ⟨(j h).1,by have:=(j h).2;omega⟩
 .rename_i v
  split
  .exact ⟨a,by omega⟩
  .rename_i l
   have i:r.head=false:=by cases d:r.head with | false=>rfl | true=>exact absurd d l
   have f:cE r.s.c r.s.run p.g=none:=by
    cases k:cE r.s.c r.s.run p.g with
    | none=>rfl
    | some x=>
     obtain ⟨fl,hs⟩:=x
     refine absurd ?_ v
     unfold admR
     rw [k]
     unfold HO
     dsimp only
     rw [i]
     rfl
   cases d:fT r.s.c r.s.run p.g with
   | none=>
    show RCore s (mV r p _) rest/\(mV r p _).ev.length<=_
    cases rQ r.s.c r.s.now r.s.run p.g with
    | none=>exact ⟨a,by show r.ev.length<=_;omega⟩
    | some n=>exact ⟨⟨a.c,a.now,a.nxt,a.hist,a.perm,a.sub,a.rn,fun e=>(by cases e),a.hs⟩,by show (r.ev++[_]).length<=_;simp⟩
   | some ids=>
    obtain ⟨_,u,A,w,_⟩:=vD b h f d
    obtain ⟨m,z⟩:=j (h.evic b u w)
    refine ⟨m,?_⟩
    have y:(kC r ids).ev.length=r.ev.length+ids.length:=(xV r.s.run ids r).2.2.2.2.2.2.2.2
    show (admR (kC r ids) p).1.ev.length<=_
    omega
def OP (r:Rd) (p:Pn):Prop:=(cO r p=r/\CO r p (r3S r 0))\/CO r p (r3S (cO r p) 1)
theorem aCl {s:Sta} {r:Rd} {p:Pn} {rest:List Pn} (b:Base s) (h:RCore s r (p::rest)) (U:r.ev.length<=900000):OP r p/\RCore s (cO r p) rest/\(cO r p).ev.length<=r.ev.length+40:=by
 obtain ⟨A,K,g3⟩:=h.gangP b (h.sub p (Az ..))
 have H:=h.few b
 have L:r.s.c.sm:=by rw [h.c];exact b.c
 have o:=jS r.s.c L r.s.run (h.sm b) p.g A K
 have hm:=aBT r.s.now p.g r.start
 cases v:cE r.s.c r.s.run p.g with
 | some x=>
  rw [v] at o
  have w:=BB A v
  have m:=DK r p x.1 x.2 o_ o_ o_
  have k:=h.adm b (fl:=x.1) w
  have u:(C0 r p x.1 x.2).ev.length=r.ev.length+1:=by show (r.ev++[_]).length=_;simp
  obtain ⟨d,ev,head,start⟩:=r
  dsimp only at v hm o
  have C:admR ⟨d,ev,head,start⟩ p=HO ⟨d,ev,head,start⟩ p (some x):=by unfold admR;rw [v]
  cases head with
  | false=>
   have i:cO ⟨d,ev,false,start⟩ p=C0 ⟨d,ev,false,start⟩ p x.1 x.2:=by
    unfold cO
    rw [C]
    rfl
   rw [i]
   refine ⟨.inr ?_,k,by rw [u];exact Nat.add_le_add_left d_ _⟩
   rw [i]
   exact aIm d ev start p x.1 x.2 _ o m
  | true=>
   cases J:bmB d.now p.g start with
   | true=>
    have i:cO ⟨d,ev,true,start⟩ p=C0 ⟨d,ev,true,start⟩ p x.1 x.2:=by
     exact zqya9
    rw [J] at hm
    rw [i]
    refine ⟨.inr ?_,k,by rw [u];exact Nat.add_le_add_left d_ _⟩
    rw [i]
    exact aIl d ev start p x.1 x.2 _ o hm m
   | false=>
    have i:cO ⟨d,ev,true,start⟩ p=⟨d,ev,true,start⟩:=by
     exact zqya9
    rw [J] at hm
    rw [i]
    exact ⟨.inl ⟨i,aIj d ev start p x o hm⟩,h.skip,Lk _ _⟩
 | none=>
  rw [v] at o
  have P:=fun ids=>vD b h (g:=p.g) v (ids:=ids)
  have l:=fun R=>IW r.s.c L r.s.run (h.sm b) o_ (h.once b) (fun x B=>(h.gangR b B).2.2) p.g A K R
  have j:=I3 r.s.c L r.s.now r.s.run (h.sm b) p.g A K
  have I:=fun ids=>SV r ids (h.sm b) (YI (h.once b))
  have G:=fun ids (a:ids.Nodup)=>h.evic b (ids:=ids) a
  have f:=h.skip
  have F:r.s.pend.length+r.s.run.length<=39:=H
  obtain ⟨d,ev,head,start⟩:=r
  dsimp only at v hm o F U
  have C:admR ⟨d,ev,head,start⟩ p=(⟨d,ev,head,start⟩,false):=by unfold admR;rw [v];rfl
  cases head with
  | true=>
   have i:cO ⟨d,ev,true,start⟩ p=⟨d,ev,true,start⟩:=by
    unfold cO
    rw [C]
    rfl
   rw [i]
   exact ⟨.inl ⟨i,aIk d ev start p o⟩,f,Lk _ _⟩
  | false=>
   have i:cO ⟨d,ev,false,start⟩ p=aEu ⟨d,ev,false,start⟩ p (fT d.c d.run p.g):=by
    unfold cO
    rw [C]
    rfl
   cases D:fT d.c d.run p.g with
   | none=>
    have q:=l none D
    rw [D] at i
    have i:cO ⟨d,ev,false,start⟩ p=mV ⟨d,ev,false,start⟩ p (rQ d.c d.now d.run p.g):=i
    dsimp only at j
    cases hs:rQ d.c d.now d.run p.g with
    | none=>
     rw [hs] at j i
     have i:cO ⟨d,ev,false,start⟩ p=⟨d,ev,false,start⟩:=i
     rw [i]
     exact ⟨.inl ⟨i,aIi d ev start p o q j⟩,f,Lk _ _⟩
    | some n=>
     rw [hs] at j i
     have i:cO ⟨d,ev,false,start⟩ p=⟨d,ev++[⟨4,p.g.id,n⟩],true,n⟩:=i
     rw [i]
     refine ⟨.inr ?_,⟨f.c,f.now,f.nxt,f.hist,f.perm,f.sub,f.rn,fun e=>(by cases e),f.hs⟩,by simp⟩
     rw [i]
     exact aIh d ev start p n o_ o q j
   | some ids=>
    have q:=l (some ids) D
    rw [D] at i
    obtain ⟨T,a2,a3,Q,x,B⟩:=P ids D
    have V:=I ids o_ T Q (by dsimp only;omega) (by dsimp only;omega)
    have k:=G ids a2 Q
    have y:=jS d.c L (aC d.run ids) (mR (h.sm b) ids) p.g A K
    dsimp only at B
    rw [B] at y
    have w:=BB A B
    obtain ⟨Z,_,_,_,f5,Y,_,X,S⟩:=xV d.run ids ⟨d,ev,false,start⟩
    have N:(kC ⟨d,ev,false,start⟩ ids).s.c=d.c:=Z
    have z:(kC ⟨d,ev,false,start⟩ ids).s.run=aC d.run ids:=rfl
    have hR3:(kC ⟨d,ev,false,start⟩ ids).s.pend.length=d.pend.length+ids.length:=X
    have O:(kC ⟨d,ev,false,start⟩ ids).ev.length=ev.length+ids.length:=S
    have M:(kC ⟨d,ev,false,start⟩ ids).head=false:=Y
    have hR6:(aC d.run ids).length<=d.run.length:=Fk _ _
    have i:cO ⟨d,ev,false,start⟩ p=(admR (kC ⟨d,ev,false,start⟩ ids) p).1:=i
    generalize kC ⟨d,ev,false,start⟩ ids=R at *
    have W:(admR R p).1=C0 R p x.1 x.2:=by
     unfold admR
     rw [N,z,B]
     unfold HO
     dsimp only
     rw [M]
     rfl
    rw [W] at i
    have m:=DK R p x.1 x.2 o_ o_ (by rw [z];omega)
    have t:=k.adm b (fl:=x.1) w
    have u:(C0 R p x.1 x.2).ev.length=R.ev.length+1:=by show (R.ev++[_]).length=_;simp
    rw [i]
    refine ⟨.inr ?_,t,by rw [u,O];show ev.length+ids.length+1<=ev.length+40;omega⟩
    rw [i]
    rw [<-z] at y
    exact aIg d ev start p ids R _ x.1 x.2 o q V y m
def HQ (s:Sta) (r:Rd) (rest:List Pn):Prop:=RCore s r rest/\r.ev.length+100*rest.length<=900000
theorem DJ {s:Sta} (b:Base s) (r:Rd) (p:Pn) (rest:List Pn) (h:HQ s r (p::rest)):HQ s (cO r p) rest:=by
 have c:=h.2
 rw [Ba] at c
 obtain ⟨a,h3⟩:=TP b h.1
 exact ⟨a,by omega⟩
theorem W3 {s:Sta} (b:Base s) (r:Rd) (p:Pn) (rest:List Pn) (h:HQ s r (p::rest)):OP r p/\HQ s (cO r p) rest:=by
 have c:=h.2
 rw [Ba] at c
 obtain ⟨h1,a,h3⟩:=aCl b h.1 o_
 exact ⟨h1,a,by omega⟩
structure RunOK (s:Sta):Prop where
 base:Base s
 sm:StaSm' s
 ord:OrdOK s
 at':aIv s.pend
 tot:Tot (ltP s) s.pend
theorem RunOK.start {s:Sta} (h:RunOK s):HQ s ⟨s,[],false,0⟩ (uK s):=by
 have hp:(uK s).Perm s.pend:=IA _ _
 have c:s.pend.Nodup:=by
  have:=h.base.ids
  rw [Bm,Br] at this
  have:=this.1
  unfold Kr at this
  rw [Ff] at this
  exact Kz (fun h e=>h (by rw [e])) this
 have hl:=h.base.few
 rw [Ar] at hl
 have a:=hp.length_eq
 refine ⟨⟨rfl,rfl,rfl,rfl,Fc _,fun p b=>hp.mem_iff.1 b,hp.symm.nodup c,fun _=>rfl,h.sm.run.2⟩,?_⟩
 show 0+_<=_
 omega
def lF (s:Sta):Rd:=(uK s).foldl cO ⟨s,[],false,0⟩
theorem yY {s:Sta} (b:Base s):∀ (L:List Pn) (r:Rd),HQ s r L->HQ s (L.foldl cO r) []
 | [],_,h=>h
 | p::L,r,h=>yY b L (cO r p) (DJ b r p L h)
theorem RunOK.few {s:Sta} (h:RunOK s):s.pend.length<40:=by
 have:=h.base.few
 rw [Ar] at this
 omega
noncomputable abbrev aEy:Func:=Tryz.f23
abbrev aG2 (L:List Pn) (i:Nat):List (Nat×AVal):=[(2,.ref 2 0),(4,.ref 0 0),(5,.slice 11 (pnv L) .no),(6,ii i)]
abbrev aG1 (r:Rd):List AObj:=[r3O r 0,evT 0,aEh]
set_option maxHeartbeats 1000000 in
theorem SG (b:Rd->List Pn->Prop) (j:∀ r p rest,b r (p::rest)->OP r p/\b (cO r p) rest) (L:List Pn) (n:L.length<=1000000) (R:Rd):∀ (m i:Nat) (r:Rd),i+m=L.length->(L.drop i).foldl cO r=R->b r (L.drop i)->
  To E aEy (.pure (.ret (.tup [R.s.av,.slice 3 (evv R.ev) .no]))) (.head (stk aEy 0) (aG2 L i) (aG1 r)):=by
 have f:(pnv L).length=L.length:=by simp
 intro m
 induction m with
 | zero=>
  intro i r l a _
  rw [Ae o_] at a
  have a:r=R:=a
  subst a
  refine gV ?_
  refine aF fun h=>?_
  refine bV hE 2 ?_;conv=>whnf
  refine To.permAt hE [0,1,2,3,4,5,6,7,9] [8] (by rfl) ?_;conv=>whnf
  refine aL ?_;conv=>whnf
  refine aL ?_
  exact zW
 | succ m k=>
  intro i r l a d
  have c:i<L.length:=o_
  rw [Ac c] at a d
  rw [Al] at a
  obtain ⟨h1,g⟩:=j _ _ _ d
  have get:=sZ c
  generalize L[i]=p at a d h1 g get
  have next:=k (i+1) (cO r p) o_ a g
  rcases h1 with ⟨e,hl⟩ | hl
  .rw [e] at next
   refine gV ?_
   exact zW
  .generalize cO r p=r2 at *
   refine gV ?_
   exact zW
theorem aBK (s:Sta) (h:RunOK s):aA Tryz.prog 23 [s.av] [] (.ret (.tup [(lF s).s.av,.slice 3 (evv (lF s).ev) .no])) []:=by
 have a:=h.few
 have hl:(uK s).length=s.pend.length:=(IA _ _).length_eq
 have h1:=SG (HQ s) (W3 h.base) (uK s) o_ _ (uK s).length 0 ⟨s,[],false,0⟩ o_ rfl h.start
 have hs:=WM s h.ord o_ h.at'
 rw [Cn] at h1
 have e:(uK s).foldl cO ⟨s,[],false,0⟩=lF s:=rfl
 rw [e] at h1
 generalize lF s=R at *
 generalize uK s=L at *
 refine c_ Tryz.f23 fun _=>?_
 repeat' first | (refine gN hE ?_;conv=>whnf) | refine .pure _ [] hs ?_ | exact rfl | refine aY ?_ | refine aN ?_ | refine aT fun h=>?_ | refine aF fun h=>?_ | refine ⟨fun h=>?_,fun h=>?_⟩ | refine aJ ?_ | refine ⟨_,rfl,?_⟩ | refine aD ?_ | fail
 refine To.begin 2 9 84 rfl rfl ?_
 refine To.part [2,4,5,6] [2,3,1] rfl rfl rfl ?_
 exact h1
def gJ (s:Sta) (g:Gan):Sta×Int:=
 if dM s.c g≠0 then (s,dM s.c g) else
 if 0<=jB g.id s.pend\/0<=bB (cP g.id) s.run 0 then (s,5) else
 if (cE s.c [] g).isNone=true then (s,6) else
 if 32<=s.pend.length+s.run.length then (s,8) else
 ({s with pend:=oQ s.pend ⟨g,s.nxt,s.now⟩,nxt:=s.nxt+1},0)
def mG (l:List Rn) (t:Int):List Ev:=(l.filter fun x=>decide (fC x<=t)).map fun x=>⟨3,x.g.id,0⟩
def sO (s:Sta) (n:Int):Sta×List Ev×Int:=
 if n<1\/1048576<n then (s,[],1) else
 if 1099511627776-n<s.now then (s,[],8) else
 ({s with hist:=tkL s.hist (wW s.c s.run) n s.c.half,now:=s.now+n,run:=atL s.run (s.now+n)},mG s.run (s.now+n),0)
noncomputable abbrev aHz:Func:=Tryz.f24
abbrev aE8 (s:Sta):AObj:=.cells 31 s.cs
theorem WJ (s:Sta) (id:Int) (hl:s.run.length<=1048576) (r:Int):∀ (m i:Nat),i+m=s.run.length->bB (cP id) (s.run.drop i) i=r->
  To E aHz (.pure (.ret (ii r))) (.head (stk aHz 0) [(1,ii id),(2,.ref 0 0),(5,ii i)] [aE8 s]):=by
 have e:(rav s.run).length=s.run.length:=by simp
 intro m
 induction m with
 | zero=>
  intro i f a
  rw [Ae o_] at a
  have a: -1=r:=a
  subst a
  refine gV ?_
  exact zW
 | succ m d=>
  intro i f a
  have b:i<s.run.length:=o_
  rw [Ac b] at a
  have get:(rav s.run)[i]? =some s.run[i].av:=dH b
  generalize s.run[i]=x at a get
  unfold bB at a
  have d:=d (i+1) o_
  cases c:cP id x with
  | true=>
   rw [if_pos c] at a
   subst a
   unfold cP at c
   refine gV ?_
   exact zW
  | false=>
   rw [if_neg (by rw [c];decide)] at a
   have next:=d a
   unfold cP at c
   refine gV ?_
   exact zW
theorem FQ (s:Sta) (id:Int) (hl:s.run.length<=1048576):aA Tryz.prog 24 [s.av,ii id] [] (.ret (ii (bB (cP id) s.run 0))) []:=by
 have h:=WJ s id hl _ s.run.length 0 o_ rfl
 rw [Cn] at h
 generalize bB (cP id) s.run 0=r at *
 exact c_ Tryz.f24 fun _=>zW
theorem uD (l:List Pn) (a:Int) (hl:l.length<=1000000):aA Tryz.prog 26 [.slice 11 (pnv l) .no,ii a] [] (.ret (ii (jB a l))) []:=by
 have h:=Q2.findref_ok (l.map Pn.q) a
 rw [wC] at h
 exact h
theorem ZZ {c:Con} {g:Gan} (h:dM c g=0):(0<=g.pods/\g.pods<=16)/\aM g.need=true:=by
 unfold dM at h
 split at h
 .rename_i a
  unfold HH at a
  simp only [Af,decide_eq_true_eq] at a
  exact ⟨⟨by omega,by omega⟩,a.2.1⟩
 .omega
set_option maxHeartbeats 2000000 in
theorem L3 (s:Sta) (g:Gan) (i:s.c.sm) (hp:s.pend.length<=1000000) (hl:s.run.length<=1000000) (w:s.nxt<=1099511627777) (q:0<=s.nxt):
  aA Tryz.prog 21 [s.av,g.av] [] (.ret (.tup [(gJ s g).1.av,ii (gJ s g).2])) []:=by
 have h1:=MX s.c i g
 have x:=uD s.pend g.id hp
 have h3:=FQ s g.id o_
 have u:(pnv s.pend).length=s.pend.length:=by simp
 have o:(rav s.run).length=s.run.length:=by simp
 unfold gJ
 by_cases d:dM s.c g≠0
 .rw [if_pos d]
  have n:(dM s.c g !=0)=true:=by simpa using d
  generalize dM s.c g=e at *
  exact zqya4
 rw [if_neg d]
 have d:dM s.c g=0:=Dz.1 d
 obtain ⟨r,t⟩:=ZZ d
 rw [d] at h1
 have n:((0:Int) !=0)=false:=by decide
 have k:=I4 s.c i g r t
 generalize jB g.id s.pend=a at *
 generalize bB (cP g.id) s.run 0=b at *
 by_cases j:0<=a\/0<=b
 .rw [if_pos j]
  by_cases m:0<=a
  .exact zqya4
  .have p:0<=b:=o_
   exact zqya4
 rw [if_neg j]
 have m:a<0:=o_
 have p:b<0:=o_
 cases h:(cE s.c [] g).isNone with
 | true=>
  rw [h] at k
  rw [if_pos rfl]
  exact zqya4
 | false=>
  rw [h] at k
  rw [if_neg d_]
  by_cases l:32<=s.pend.length+s.run.length
  .rw [if_pos l]
   exact zqya4
  .rw [if_neg l]
   have v:=IL s.pend ⟨g,s.nxt,s.now⟩ hp
   generalize oQ s.pend ⟨g,s.nxt,s.now⟩=pq at *
   exact zqya4
theorem UG {x:Rn} {l:List Rn} {t:Int} (h:fC x<=t):mG (x::l) t=⟨3,x.g.id,0⟩::mG l t:=by
 unfold mG
 rw [Ht,if_pos (decide_eq_true h)]
 rfl
theorem UH {x:Rn} {l:List Rn} {t:Int} (h:¬ fC x<=t):mG (x::l) t=mG l t:=by
 unfold mG
 rw [Ht,if_neg (by simpa using h)]
noncomputable abbrev aHw:Func:=Tryz.f22
set_option maxHeartbeats 1000000 in
theorem VN (s R:Sta) (hs:Sm s.run) (k:R={s with run:=atL s.run s.now}) (Q:List Ev):∀ (m i:Nat) (ev:List Ev),i+m=s.run.length->ev.length<=i->ev++mG (s.run.drop i) s.now=Q->
  To (Eo [7] []) aHw (.pure (.ret (.tup [R.av,.slice 3 (evv Q) .no,ii 0]))) (.head (stk aHw 0) [(2,.ref 0 0),(4,.ref 1 0),(7,.slice 3 (evv ev) (.own 2 0)),(8,ii i)] [aE8 s,aEh,evT 0]):=by
 have h:(rav s.run).length=s.run.length:=by simp
 have hl:=hs.1
 intro m
 induction m with
 | zero=>
  intro i ev n l a
  rw [Ae o_] at a
  have a:ev++[]=Q:=a
  rw [Bo] at a
  subst a
  have p:=XR s.run hs s.now
  generalize atL s.run s.now=ra at *
  subst k
  refine gV ?_
  exact zW
 | succ m d=>
  intro i ev n l a
  have b:i<s.run.length:=o_
  rw [Ac b] at a
  have get:(rav s.run)[i]? =some s.run[i].av:=dH b
  generalize s.run[i]=x at a get
  have o:=xN x
  have j:(evv ev).length<=1048576:=by simp;omega
  by_cases f:fC x<=s.now
  .have c:mG (x::s.run.drop (i+1)) s.now=⟨3,x.g.id,0⟩::mG (s.run.drop (i+1)) s.now:=UG f
   rw [c] at a
   have next:=d (i+1) (ev++[⟨3,x.g.id,0⟩]) o_ q_ (by rw [Aj];exact a)
   have e:evv (ev++[⟨3,x.g.id,0⟩])=evv ev++[Ev.av ⟨3,x.g.id,0⟩]:=by simp
   rw [e] at next
   generalize fC x=t at *
   clear d a c e
   refine gV ?_
   exact zW
  .have c:mG (x::s.run.drop (i+1)) s.now=mG (s.run.drop (i+1)) s.now:=UH f
   rw [c] at a
   have next:=d (i+1) ev o_ o_ a
   generalize fC x=t at *
   clear d a c
   refine gV ?_
   exact zW
set_option maxHeartbeats 1000000 in
theorem VO (s:Sta) (n:Int) (e:s.c.sm) (hs:Sm s.run) (k:LtF s.hist) (a:s.hist.length<=1048576) (q:s.c.half<=9223372036854775807) (m: -9223372036854775808<=s.now) (p:s.now<=1099511627776) (i: -9223372036854775808<=n/\n<=9223372036854775807):
  aA Tryz.prog 22 [s.av,ii n] [] (.ret (.tup [(sO s n).1.av,.slice 3 (evv (sO s n).2.1) .no,ii (sO s n).2.2])) []:=by
 unfold sO
 by_cases h:n<1\/1048576<n
 .rw [if_pos h]
  by_cases o:n<1
  .exact zqya2
  .have l:1048576<n:=o_
   exact zqya2
 rw [if_neg h]
 have o:1<=n:=o_
 have l:n<=1048576:=o_
 by_cases d:1099511627776-n<s.now
 .rw [if_pos d]
  exact zqya2
 .rw [if_neg d]
  have b:=aBB s.c s.run
  have hsl:(wW s.c s.run).length<=1048576:=by
   have:=e.ns
   unfold wW ofL kR
   rw [mH]
   simp
   omega
  have h1:=MD s.c e s.run hs.1
  have t:=WK s.hist (wW s.c s.run) k a b hsl n s.c.half o_ q
  have j:=VN {s with hist:=tkL s.hist (wW s.c s.run) n s.c.half,now:=s.now+n} {s with hist:=tkL s.hist (wW s.c s.run) n s.c.half,now:=s.now+n,run:=atL s.run (s.now+n)} hs rfl _ s.run.length 0 [] s_ s_ rfl
  rw [Cn] at j
  generalize tkL s.hist (wW s.c s.run) n s.c.half=th at *
  generalize wW s.c s.run=sh at *
  generalize mG s.run (s.now+n)=Q at *
  have r:[]++Q=Q:=rfl
  generalize atL s.run (s.now+n)=ra at *
  exact zqya2
def nO (s:Sta) (x:Cmd):Sta×List Ev×Int:=
 if C8.chk x≠0 then (s,[],C8.chk x) else
 if x.k=1 then (if bR x.c≠0 then (s,[],bR x.c) else if 0<s.pend.length+s.run.length then (s,[],7) else ({s with c:=x.c,hist:=Ah x.c.ns.length 0},[],0)) else
 if x.k=2 then ((gJ s x.g).1,[],(gJ s x.g).2) else
 if x.k=5 then sO s x.n else
 if x.k=6 then ((lF s).s,(lF s).ev,0) else
 if 0<=bB (cP x.n) s.run 0 then ({s with run:=aC s.run [x.n]},[],0) else
 if x.k=3\/jB x.n s.pend<0 then (s,[],4) else
 ({s with pend:=fO s.pend x.n},[],0)
abbrev apC (s:Sta) (x:Cmd) (R:Sta×List Ev×Int):Prop:=aA Tryz.prog 8 [s.av,x.av] [] (.ret (.tup [R.1.av,.slice 3 (evv R.2.1) .no,ii R.2.2])) []
theorem aD6 (s:Sta) (x:Cmd) (e:Int) (a:C8.chk x=e) (h:e≠0):apC s x (s,[],e):=by
 have h1:=C8.rcheck_any x e a
 have b:(e !=0)=true:=by simpa using h
 exact zqya1
theorem aH5 (s:Sta) (x:Cmd) (b:C8.chk x=0) (a:x.k=2) (S:Sta) (e:Int) (d:aA Tryz.prog 21 [s.av,x.g.av] [] (.ret (.tup [S.av,ii e])) []):apC s x (S,[],e):=by
 exact zqya6
theorem aH4 (s:Sta) (x:Cmd) (b:C8.chk x=0) (a:x.k=5) (S:Sta) (ev:List Ev) (e:Int) (d:aA Tryz.prog 22 [s.av,ii x.n] [] (.ret (.tup [S.av,.slice 3 (evv ev) .no,ii e])) []):apC s x (S,ev,e):=by
 exact zqya6
theorem aH3 (s:Sta) (x:Cmd) (b:C8.chk x=0) (a:x.k=6) (S:Sta) (ev:List Ev) (d:aA Tryz.prog 23 [s.av] [] (.ret (.tup [S.av,.slice 3 (evv ev) .no])) []):apC s x (S,ev,0):=by
 exact zqya6
theorem aD4 (s:Sta) (x:Cmd) (d:C8.chk x=0) (b:x.k=3\/x.k=4) (hs:Sm s.run) (h:0<=bB (cP x.n) s.run 0):apC s x ({s with run:=aC s.run [x.n]},[],0):=by
 have h1:=C8.rcheck_any x 0 d
 have e:=FQ s x.n hs.1
 have h3:=kU s.run hs [x.n] s_
 generalize bB (cP x.n) s.run 0=a at *
 obtain ⟨k,c,g,n⟩:=x
 generalize aC s.run [n]=rn at *
 rcases b with b | b<;>dsimp only at b<;>subst b
 all_goals
  refine cT (E:=(Eo [87] [])) (fn:=Tryz.f8) (g:=.pure _) fun _=>?_
  exact zW
theorem aGP (s:Sta) (x:Cmd) (e:C8.chk x=0) (d:x.k=3\/x.k=4) (hs:Sm s.run) (hp:s.pend.length<=1000000) (h:¬ 0<=bB (cP x.n) s.run 0) (i:x.k=3\/jB x.n s.pend<0):apC s x (s,[],4):=by
 have h1:=C8.rcheck_any x 0 e
 have l:=FQ s x.n hs.1
 have h3:=uD s.pend x.n hp
 generalize bB (cP x.n) s.run 0=a at *
 generalize jB x.n s.pend=b at *
 obtain ⟨k,c,g,n⟩:=x
 dsimp only at d i
 rcases d with rfl | rfl
 .exact zqya1
 .have j:b<0:=o_
  exact zqya1
theorem aD5 (s:Sta) (x:Cmd) (e:C8.chk x=0) (d:x.k=4) (hs:Sm s.run) (hp:s.pend.length<=1000000) (h:¬ 0<=bB (cP x.n) s.run 0) (j:¬ jB x.n s.pend<0):apC s x ({s with pend:=fO s.pend x.n},[],0):=by
 have h1:=C8.rcheck_any x 0 e
 have l:=FQ s x.n hs.1
 have h3:=uD s.pend x.n hp
 have i:=DH s.pend x.n hp
 generalize bB (cP x.n) s.run 0=a at *
 generalize jB x.n s.pend=b at *
 generalize fO s.pend x.n=pq at *
 obtain ⟨k,c,g,n⟩:=x
 dsimp only at d
 subst d
 exact zqya1
theorem aGQ (s:Sta) (x:Cmd) (b:C8.chk x=0) (a:x.k=1) (i:x.c.sm) (h:bR x.c≠0):apC s x (s,[],bR x.c):=by
 have h1:=C8.rcheck_any x 0 b
 have d:=check_ok x.c i
 obtain ⟨k,c,g,n⟩:=x
 dsimp only at a h d⊢
 generalize bR c=e at *
 subst a
 have j:(e !=0)=true:=by simpa using h
 exact zqya1
theorem aAX (s:Sta) (x:Cmd) (d:C8.chk x=0) (a:x.k=1) (i:x.c.sm) (h:bR x.c=0) (hp:s.pend.length<=1000000) (hl:s.run.length<=1000000) (l:0<s.pend.length+s.run.length):apC s x (s,[],7):=by
 have h1:=C8.rcheck_any x 0 d
 have b:=check_ok x.c i
 have j:(pnv s.pend).length=s.pend.length:=by simp
 have e:(rav s.run).length=s.run.length:=by simp
 obtain ⟨k,c,g,n⟩:=x
 dsimp only at a h b
 rw [h] at b
 subst a
 exact zqya1
theorem aAW (s:Sta) (x:Cmd) (m:C8.chk x=0) (j:x.k=1) (b:x.c.sm) (h:bR x.c=0) (hp:s.pend=[]) (hl:s.run=[]):apC s x ({s with c:=x.c,hist:=Ah x.c.ns.length 0},[],0):=by
 have h1:=C8.rcheck_any x 0 m
 have e:=check_ok x.c b
 have q:(pnv s.pend).length=0:=by rw [hp];rfl
 have o:(rav s.run).length=0:=by rw [hl];rfl
 obtain ⟨k,c,g,n⟩:=x
 dsimp only at j h e b⊢
 rw [h] at e
 subst j
 have p:=b.ns
 have a:(nav c.ns).length=c.ns.length:=by simp
 have l:(8:Int)*((nav c.ns).length:Int)<=281474976710656:=by rw [a];omega
 have i:(nav c.ns).length<=maxLen:=by rw [a];simp only [maxLen];omega
 have d:fv (Ah c.ns.length 0)=Ah (nav c.ns).length (.int .u64 0):=by rw [a];simp
 unfold apC Sta.av Sta.cs
 dsimp only
 rw [d]
 refine c_ Tryz.f8 fun _=>?_
 refine gV ?_
 refine .pure _ [] h1 ?_
 refine gV ?_
 refine Ad (fun h=>absurd h d_) (fun _=>?_)
 refine gV ?_
 refine Ad (fun _=>?_) (fun h=>by cases h)
 refine gV ?_
 refine .pure _ [] e ?_
 refine gV ?_
 refine Ad (fun h=>absurd h d_) (fun _=>?_)
 refine gV ?_
 refine aJ ?_
 refine gV ?_
 refine Ad (fun h=>absurd (of_decide_eq_true h) o_) (fun _=>?_)
 refine bV hE 2 ?_;conv=>whnf
 refine To.permT hE [0,1,2,3,4,5,7,9] [6,8,10] (by rfl) ?_;conv=>whnf
 refine aL ?_;conv=>whnf
 refine ⟨?_,?_,trivial⟩
 .conv=>whnf
  refine Aw (nav c.ns).length (Ad rfl ?_);conv=>whnf
  refine Ad (Ad rfl (Ad l i)) ?_;conv=>whnf
  refine aL ?_;conv=>whnf
  refine ⟨?_,trivial⟩;conv=>whnf
  exact zqya7
 .conv=>whnf
  refine aL ?_;conv=>whnf
  refine ⟨?_,trivial⟩;conv=>whnf
  refine Aw (nav c.ns).length (Ad rfl ?_);conv=>whnf
  refine Ad (Ad rfl (Ad l i)) ?_;conv=>whnf
  exact zqya7
structure StOK (s:Sta):Prop where
 c:s.c.sm
 run:RunOK s
 half:s.c.half<=9223372036854775807
 nxt:0<=s.nxt/\s.nxt<=1099511627777
theorem aHT {x:Cmd} (h:C8.chk x=0):1<=x.k/\x.k<=6:=by
 unfold C8.chk at h
 split at h
 .rename_i a
  simpa using a
 .omega
theorem UY (s:Sta) (x:Cmd) (h:StOK s) (r:x.k=1->x.c.sm) (t: -9223372036854775808<=x.n/\x.n<=9223372036854775807):apC s x (nO s x):=by
 have d:=h.run.sm
 have m:=h.run.base.few
 rw [Ar,Cw] at m
 unfold nO
 by_cases a:C8.chk x≠0
 .rw [if_pos a]
  exact aD6 s x _ rfl a
 rw [if_neg a]
 have a:C8.chk x=0:=Dz.1 a
 have u:=aHT a
 by_cases f:x.k=1
 .rw [if_pos f]
  have e:=r f
  by_cases b:bR x.c≠0
  .rw [if_pos b]
   exact aGQ s x a f e b
  rw [if_neg b]
  have b:bR x.c=0:=Dz.1 b
  by_cases o:0<s.pend.length+s.run.length
  .rw [if_pos o]
   exact aAX s x a f e b o_ o_ o
  .rw [if_neg o]
   exact aAW s x a f e b (Gy.1 o_) (Gy.1 o_)
 rw [if_neg f]
 by_cases b:x.k=2
 .rw [if_pos b]
  exact aH5 s x a b _ _ (L3 s x.g h.c o_ o_ h.nxt.2 h.nxt.1)
 rw [if_neg b]
 by_cases q:x.k=5
 .rw [if_pos q]
  exact aH4 s x a q _ _ _ (VO s x.n h.c d.run h.run.ord.lt h.run.ord.hl h.half (by have:=h.run.ord.now;omega) h.run.ord.now.2 t)
 rw [if_neg q]
 by_cases l:x.k=6
 .rw [if_pos l]
  exact aH3 s x a l _ _ (aBK s h.run)
 rw [if_neg l]
 have j:x.k=3\/x.k=4:=o_
 by_cases i:0<=bB (cP x.n) s.run 0
 .rw [if_pos i]
  exact aD4 s x a j d.run i
 rw [if_neg i]
 by_cases p:x.k=3\/jB x.n s.pend<0
 .rw [if_pos p]
  exact aGP s x a j d.run o_ i p
 .rw [if_neg p]
  exact aD5 s x a o_ d.run o_ i o_
theorem PO:aA Tryz.prog 6 [] [] (.ret (Sta.av ⟨⟨[],[],0,0⟩,0,1,[],[],[]⟩)) []:=by
 exact c_ Tryz.f6 fun _=>zW
abbrev ofC (x:Cmd) (v:AVal):Prop:=aA Tryz.prog 38 [x.av] [] (.ret v) []
abbrev cmv (l:List Cmd):List AVal:=l.map Cmd.av
def tY:Sta:=⟨⟨[],[],0,0⟩,0,1,[],[],[]⟩
theorem yS {f:Rn->Int} (q:Rn->Bool):∀ {l:List Rn},(∀ x∈l,0<=f x)->cG ((l.filter q).map f)<=cG (l.map f)
 | [],_=>Dc _
 | x::l,h=>by
  have d:=yS q (l:=l) fun y b=>h y (Bb _ b)
  have c:=h x (Az ..)
  have e:cG ((x::l).map f)=f x+cG (l.map f):=rfl
  by_cases a:q x=true
  .rw [Em a,e]
   show f x+cG _<=_
   omega
  .rw [Ek a,e]
   omega
theorem H8 {f:Rn->Int} {x:Rn}:∀ {l:List Rn},cG ((l++[x]).map f)=cG (l.map f)+f x
 | []=>by show f x+0=0+f x;omega
 | y::l=>by
  show f y+cG ((l++[x]).map f)=f y+cG (l.map f)+f x
  rw [H8]
  omega
theorem K6 {c:Con} {free:List V3} {g:Gan} {hs:List Int}:oD c free g hs=true↔(hs.length:Int)=g.pods/\(∃ G∈gpL c g.lev,∀ u∈hs,u∈G)/\∀ u∈hs,0<=u/\u<(free.length:Int)/\((hs.count u:Nat):Int)<=cS ((free[u.toNat]?).getD V3.zero) g.need:=by
 constructor
 .intro h
  obtain ⟨h1,i⟩:=aDV h
  refine ⟨h1,?_,i⟩
  unfold oD at h
  rw [if_pos h1,Ej] at h
  obtain ⟨G,f,h⟩:=h
  unfold oC at h
  rw [Af] at h
  exact ⟨G,f,sH.1 h.1⟩
 .intro ⟨h1,⟨G,f,i⟩,h3⟩
  unfold oD
  rw [if_pos h1,Ej]
  refine ⟨G,f,?_⟩
  unfold oC
  rw [sH.2 i,Cd]
  unfold BC
  rw [Cj]
  intro u j
  obtain ⟨a,b,d⟩:=h3 u j
  unfold Z9
  rw [if_neg q_,if_neg q_]
  have e:xE u hs=((hs.count u:Nat):Int):=by unfold xE;rw [vC];omega
  rw [e]
  simp
  omega
theorem WU {free need:V3} {n:Int} (e:aM need=true) (h1:1<=n) (f:n<=16):n<=cS free need↔need.a*n<=free.a/\need.b*n<=free.b/\need.c*n<=free.c:=by
 constructor
 .exact qD e h1
 .intro ⟨a,b,d⟩
  obtain ⟨j,g,i⟩:=bP e
  have key:∀ x y:Int,0<=x->x*n<=y->x<=y:=fun x y k h=>by
   have:x*1<=x*n:=Jv h1 k
   omega
  have l:bK need free=true:=pY.2 ⟨key _ _ j.1 a,key _ _ g.1 b,key _ _ i.1 d⟩
  exact (xL e l n).2 ⟨f,a,b,d⟩
structure NeedOK (g:Gan):Prop where
 v:aM g.need=true
 pods:1<=g.pods/\g.pods<=16
 lev:0<=g.pref/\g.pref<=g.lev/\g.lev<=3
 run:1<=g.run/\g.run<=1048576
 id:1<=g.id
theorem gD {c:Con} {g:Gan} (h:dM c g=0):NeedOK g:=by
 obtain ⟨h1,_⟩:=qM.1 h
 unfold HH at h1
 simp only [Af,decide_eq_true_eq] at h1
 exact ⟨h1.2.1,by omega,by omega,by omega,by omega⟩
def pR (p:V3->Int) (c:Con) (l:List Rn):Prop:=∀ j:Nat,j<c.hs.length->cG (l.map (sP p (j:Int)))<=p (aX c.hs (j:Int)).c
def aEM (c:Con) (r:Rn):Prop:=(r.hs.length:Int)=r.g.pods/\(∃ G∈gpL c r.g.lev,∀ u∈r.hs,u∈G)/\∀ u∈r.hs,0<=u/\u<(c.hs.length:Int)
structure HstOK (c:Con) (l:List Rn):Prop where
 a:pR V3.a c l
 b:pR V3.b c l
 d:pR V3.c c l
theorem pR.filter {p:V3->Int} {c:Con} {l:List Rn} (q:Rn->Bool) (a:∀ v,aM v=true->0<=p v) (b:∀ x∈l,NeedOK x.g) (h:pR p c l):pR p c (l.filter q):=fun j e=>
 Fb (yS q fun x d=>Ip (a _ (b x d).v) o_) (h j e)
theorem HstOK.filter {c:Con} {l:List Rn} (q:Rn->Bool) (f:∀ x∈l,NeedOK x.g) (h:HstOK c l):HstOK c (l.filter q):=
 ⟨h.a.filter q (fun _ e=>(bP e).1.1) f,h.b.filter q (fun _ e=>(bP e).2.1.1) f,h.d.filter q (fun _ e=>(bP e).2.2.1) f⟩
theorem aGC {c:Con} {l:List Rn} (C:bR c=0) (q:∀ x∈l,NeedOK x.g) (G:(l.map fun x=>x.g.id).Nodup) (k:HstOK c l) {r:Rn} (o:r∈l) (hp:aEM c r):oD c (fM c (l.filter fun x=>!(x.g.id==r.g.id))) r.g r.hs=true:=by
 obtain ⟨B,F,t⟩:=hp
 refine K6.2 ⟨B,F,fun u m=>?_⟩
 obtain ⟨D,z⟩:=t u m
 rw [A9]
 refine ⟨D,z,?_⟩
 have n:=q r o
 have s:0<r.hs.count u:=Km.2 m
 have w:r.hs.count u<=r.hs.length:=Md
 have y:=n.pods
 refine (WU n.v o_ o_).2 ?_
 obtain ⟨j,rfl⟩:∃ j:Nat,u=(j:Int):=⟨u.toNat,by omega⟩
 have i:j<c.hs.length:=o_
 have key:∀ p:V3->Int,Prj p->(∀ v,aM v=true->0<=p v/\p v<=1048576)->pR p c l->p r.g.need*((r.hs.count (j:Int):Nat):Int)<=p (((fM c (l.filter fun x=>!(x.g.id==r.g.id)))[(j:Int).toNat]?).getD V3.zero):=fun p hp h hs=>by
  rw [Cl,QW hp (fun j i=>h _ (OH C i)) (fun x A=>h _ (q x (Dw.1 A).1).v) i]
  have h1:=hs j i
  rw [O9 (f:=sP p (j:Int)) o G] at h1
  have e:sP p (j:Int) r=p r.g.need*((r.hs.count (j:Int):Nat):Int):=rfl
  rw [<-e]
  omega
 exact ⟨key _ aCg (fun _ h=>(bP h).1) k.a,key _ aCf (fun _ h=>(bP h).2.1) k.b,key _ aCe (fun _ h=>(bP h).2.2) k.d⟩
theorem pR.more {p:V3->Int} {c:Con} {l:List Rn} {x:Rn} (hp:Prj p) (m:bR c=0) (f:∀ v,aM v=true->0<=p v/\p v<=1048576) (k:∀ free need (n:Int),aM need=true->1<=n->n<=cS free need->p need*n<=p free) (o:∀ y∈l,NeedOK y.g) (b:NeedOK x.g)
  (d:∀ u∈x.hs,((x.hs.count u:Nat):Int)<=cS (((fM c l)[u.toNat]?).getD V3.zero) x.g.need) (h:pR p c l):pR p c (l++[x]):=by
 intro j a
 rw [H8]
 have q:=h j a
 have e:sP p (j:Int) x=p x.g.need*((x.hs.count (j:Int):Nat):Int):=rfl
 by_cases hm:(j:Int)∈x.hs
 .have i:0<x.hs.count (j:Int):=Km.2 hm
  have h1:=k _ _ _ b.v o_ (d _ hm)
  rw [Cl,QW hp (fun j a=>f _ (OH m a)) (fun x b=>f _ (o x b).v) a,<-e] at h1
  have hz:0<=sP p (j:Int) x:=Ip (f _ b.v).1 o_
  unfold cY at h1
  omega
 .rw [e,Kj.2 hm]
  simp
  omega
theorem HstOK.more {c:Con} {l:List Rn} {x:Rn} (m:bR c=0) (j:∀ y∈l,NeedOK y.g) (k:NeedOK x.g) (f:∀ u∈x.hs,((x.hs.count u:Nat):Int)<=cS (((fM c l)[u.toNat]?).getD V3.zero) x.g.need) (h:HstOK c l):HstOK c (l++[x]):=
 ⟨h.a.more aCg m (fun _ e=>(bP e).1) (fun _ _ _ e h1 i=>(qD e h1 i).1) j k f,h.b.more aCf m (fun _ e=>(bP e).2.1) (fun _ _ _ e h1 i=>(qD e h1 i).2.1) j k f,h.d.more aCe m (fun _ e=>(bP e).2.2) (fun _ _ _ e h1 i=>(qD e h1 i).2.2) j k f⟩
def rM (c:Con) (l:List Rn):Prop:=∀ i:Nat,i<c.ns.length->bK (atV (ofL c l) (i:Int)) (nT c (i:Int))=true
theorem aB8 {s:Sta}:I7 s=true↔rM s.c s.run:=by
 unfold I7 rM
 rw [Cj]
 exact ⟨fun h i a=>h i (Gt.2 a),fun h i a=>h i (Gt.1 a)⟩
theorem NeedOK.dem {g:Gan} (h:NeedOK g):(dem g).pos:=aDI h.v ⟨by have:=h.pods;omega,h.pods.2⟩
theorem rM.filter {c:Con} {l:List Rn} (q:Rn->Bool) (a:∀ x∈l,NeedOK x.g) (h:rM c l):rM c (l.filter q):=fun i d=>
 sJ.2 ((aCo (fun x b=>(a x b).dem) q (i:Int)).2.1.trans (sJ.1 (h i d)))
theorem rM.more {c:Con} {l:List Rn} {x:Rn} (m:∀ y∈l,NeedOK y.g) (k:NeedOK x.g) (hm:wZ c (ofL c l) x.g.ten (Go.Proofs.YticlgfdibfobdaaGreat.dem x.g)=true) (hl:aW c.ns x.g.ten=true) (h:rM c l):rM c (l++[x]):=by
 intro i f
 by_cases hp:(i:Int)∈bH c.ns x.g.ten
 .have h1:=(I6 (fun y n=>(m y n).dem) k.dem hm _ hp).2
  have e:QA c x.g.ten (i:Int)=nT c (i:Int):=by
   unfold QA nT
   by_cases b:(i:Int)=x.g.ten
   .rw [if_pos b,b,if_pos hl]
   .rw [if_neg b,if_neg]
    intro d
    unfold bH at hp
    rw [Gu] at hp
    exact b (QF d hp)
  rw [<-e]
  exact h1
 .have e:atV (ofL c (l++[x])) (i:Int)=atV (ofL c l) (i:Int):=by
   have a:c.ok (i:Int):=⟨by omega,by simpa using f⟩
   rw [wE a,wE a,Iw]
   show mS c _ _ x=_
   unfold mS
   rw [if_neg]
   intro j
   exact hp (by unfold bH;rw [Gu];simpa using j.2)
  rw [e]
  exact h i f
theorem DU:∀ {l ns:List Nod} {i:Nat},lH ns i l=true->∀ k (h:k<l.length),lY (rlB ns ((i+k:Nat):Int)) (i+k) l[k]=true
 | [],_,_,_,k,h=>absurd h (Nat.not_lt_zero _)
 | x::l,ns,i,h0,k,h=>by
  unfold lH at h0
  by_cases a:lY (rlB ns i) i x=true
  .rw [if_pos a] at h0
   cases k with
   | zero=>exact a
   | succ k=>
    have:=DU h0 k (by simpa using h)
    rw [show i+1+k=i+(k+1) from by omega] at this
    exact this
  .rw [if_neg a] at h0
   cases h0
theorem wM {c:Con} (h:bR c=0):wU c/\lH c.ns 0 c.ns=true/\c.hs.all mD=true:=by
 unfold bR at h
 split at h
 .split at h
  .split at h
   .exact ⟨by assumption,by assumption,by assumption⟩
   .omega
  .omega
 .omega
theorem C6 {v:V3} (h:aM v=true):v.pos:=by
 obtain ⟨a,b,d⟩:=bP h
 exact ⟨a.1,b.1,d.1⟩
theorem JR {c:Con} (h:bR c=0) {i:Nat} (f:i<c.ns.length):(bT c.ns (i:Int)).n.pos/\(bT c.ns (i:Int)).b.pos:=by
 have h1:=DU (wM h).2.1 i f
 have e:bT c.ns (i:Int)=c.ns[i]:=by unfold bT;rw [Cl,Aa f];rfl
 rw [e]
 unfold lY at h1
 have d:∀ v:V3,zB v=true->v.pos:=fun v a=>by
  unfold zB at a
  simp at a
  exact ⟨by omega,by omega,by omega⟩
 split at h1
 .cases h1
 .split at h1
  .simp only [Af] at h1
   exact ⟨C6 h1.1,C6 h1.2.1⟩
  .simp only [Af] at h1
   exact ⟨d _ h1.1,d _ h1.2.1⟩
theorem XX {c:Con} (h:bR c=0):rM c []:=by
 intro i j
 have d:c.ok (i:Int):=⟨by omega,by simpa using j⟩
 rw [wE d]
 have hs:∀ p:V3->Int,Prj p->(∀ v:V3,v.pos->0<=p v)->0<=p (nT c (i:Int)):=fun p hp k=>by
  have f:0<=p (gG c.ns (i:Int) (jH c.ns))/\p (gG c.ns (i:Int) (jH c.ns))<=cY:=by
   unfold gG
   have hz:=hp.zero
   have a:∀ e∈(bD c.ns (i:Int)).map fun t=>p (atV (jH c.ns) t),0<=e:=fun e l=>by
    obtain ⟨t,m,rfl⟩:=Bu.1 l
    have b:=iC c (i:Int) t m
    rw [YS b]
    have g:t=(t.toNat:Int):=by have:=b.1;omega
    rw [g]
    exact k _ (JR h b.2).1
   rw [FI hp,hz,sS (Dc _) d_ a]
   have:=jO a
   unfold cY
   omega
  unfold nT
  split
  .rw [hp.add]
   have h1:=k _ (JR h j).2
   rw [pQ f.1 f.2 h1]
   unfold cY
   omega
  .exact f.1
 exact sJ.2 ⟨hs _ aCg fun _ h=>h.1,hs _ aCf fun _ h=>h.2.1,hs _ aCe fun _ h=>h.2.2⟩
theorem T7 {c:Con} {free:List V3} {g:Gan} (A:1<=g.pods) (hl:0<=g.pref/\g.pref<=g.lev/\g.lev<=3) {x:Int×List Int} (h:rG c free g=some x):(aX c.hs (x.2.headD 0)).f=x.1:=by
 have d:∀ (j:List (List Int)),fdG c free g j=some x->∃ a∈j,x=((aX c.hs (a.headD 0)).f,inL free g a)/\¬ ((inL free g a).length:Int)<g.pods:=fun j=>by
  induction j with
  | nil=>intro h;cases h
  | cons a r k=>
   intro h
   unfold fdG at h
   by_cases h1:((inL free g a).length:Int)<g.pods
   .rw [if_pos (decide_eq_true h1)] at h
    obtain ⟨q,s,o⟩:=k h
    exact ⟨q,Bb _ s,o⟩
   .rw [if_neg (by rw [decide_eq_false h1];decide)] at h
    cases h
    exact ⟨a,Az ..,rfl,h1⟩
 have e:∀ (n:Nat) (lv:Int),fdL c free g n lv=some x->∃ b,lv<=b/\b<lv+n/\fdG c free g (gpL c b)=some x:=fun n=>by
  induction n with
  | zero=>intro lv h;cases h
  | succ n k=>
   intro lv h
   unfold fdL at h
   cases i:fdG c free g (gpL c lv) with
   | some y=>
    rw [i] at h
    cases h
    exact ⟨lv,Dc _,by omega,i⟩
   | none=>
    rw [i] at h
    obtain ⟨b,s,o,u⟩:=k (lv+1) h
    exact ⟨b,by omega,by omega,u⟩
 unfold rG at h
 obtain ⟨b,l1,l2,z⟩:=e _ _ h
 obtain ⟨a,v,rfl,p⟩:=d _ z
 have l:(inL free g a).headD 0∈a:=by
  have hm:(inL free g a).headD 0∈inL free g a:=by
   cases i:inL free g a with
   | nil=>rw [i] at p;simp at p;omega
   | cons y t=>exact Az ..
  rcases NL a [] _ hm with h | h
  .cases h
  .exact h.1
 obtain ⟨_,w⟩:=GQ (c:=c) (lv:=b) o_ o_
 have m:=(HN o_ o_).1 ((w a v).2.2 _ l).2.2
 unfold nZ ofK at m
 exact (Fu m).1.symm
abbrev Srt (l:List Pn):Prop:=l.Pairwise fun a b=>a.seq<b.seq
structure RunP (c:Con) (now:Int) (l:List Rn):Prop where
 time:∀ r∈l,r.at'<=r.st/\r.st<=now/\now<fC r/\(aX c.hs (r.hs.headD 0)).f=r.fl
 plc:∀ r∈l,aEM c r
 hst:HstOK c l
 quo:rM c l
def RQ (c:Con) (nxt now:Int) (x:Pn):Prop:=dM c x.g=0/\(cE c [] x.g).isNone=false/\(0<=x.seq/\x.seq<nxt)/\0<=x.at'/\x.at'<=now
structure OkS (s:Sta):Prop where
 head:gQ s.c=true\/bR s.c=0
 now:0<=s.now/\s.now<=1099511627776
 nxt:1<=s.nxt/\s.nxt<=1099511627776
 hist:s.hist.length=s.c.ns.length
 few:s.pend.length+s.run.length<=32
 row:Srt s.pend
 gang:∀ x∈s.pend++s.run.map Rn.pn,RQ s.c s.nxt s.now x
 ids:((s.pend++s.run.map Rn.pn).map fun x=>x.g.id).Nodup
 seqs:((s.pend++s.run.map Rn.pn).map fun x=>x.seq).Nodup
 run:RunP s.c s.now s.run
theorem PD {l:List Pn}:(l.map Pn.q).Pairwise (fun a b=>a.seq<b.seq)↔Srt l:=by
 rw [Ff]
 exact Mo
theorem aBP {l:List Pn} (h:(l.map fun x=>x.g.id).Nodup):WT l=true↔Srt l:=by
 unfold WT
 rw [Q2.check_good]
 constructor
 .exact fun g=>PD.1 g.seq
 .refine fun g=>⟨PD.2 g,?_⟩
  rw [Ff]
  unfold Kr at h
  rw [Ff] at h
  exact h
theorem QI (p:Q2.Pend):∀ {l:List Q2.Pend},l.Pairwise (fun a b=>a.seq<b.seq)->(∀ x∈l,x.seq≠p.seq)->(Q2.insP p l).Pairwise (fun a b=>a.seq<b.seq)/\∀ x∈Q2.insP p l,x=p\/x∈l
 | [],_,_=>⟨List.pairwise_singleton _ _,fun x c=>.inl (Dd.1 c)⟩
 | y::r,h,hn=>by
  rw [Ce] at h
  unfold Q2.insP
  by_cases d:p.seq<y.seq
  .rw [if_pos d]
   refine ⟨Ce.2 ⟨fun z hz=>?_,Ce.2 h⟩,fun x c=>Ao.1 c⟩
   rcases Ao.1 hz with rfl | hz
   .exact d
   .have:=h.1 z hz
    omega
  .rw [if_neg d]
   obtain ⟨h1,e⟩:=QI p h.2 fun x c=>hn x (Bb _ c)
   have f:=hn y (Az ..)
   refine ⟨Ce.2 ⟨fun z hz=>?_,h1⟩,fun x c=>?_⟩
   .rcases e z hz with rfl | hz
    .omega
    .exact h.1 z hz
   .rcases Ao.1 c with rfl | c
    .exact .inr (Az ..)
    .rcases e x c with rfl | c
     .exact .inl rfl
     .exact .inr (Bb _ c)
theorem PZ {l:List Pn} {p:Pn} (h:Srt l) (a:∀ x∈l,x.seq≠p.seq):Srt (oQ l p):=by
 refine PD.1 ?_
 rw [XZ,Q2.putP_ins]
 refine (QI p.q (PD.2 h) fun x b=>?_).1
 obtain ⟨y,c,rfl⟩:=Bu.1 b
 exact a y c
theorem H7 {l:List Pn} {a:Int} (h:Srt l):Srt (fO l a):=by
 unfold fO
 split
 .exact h
 .exact h.sublist (List.eraseIdx_sublist ..)
structure SizOK (c:Con):Prop where
 ns:c.ns.length<=12
 hs:c.hs.length<=24
 half:0<=c.half/\c.half<=1048576
 age:0<=c.age/\c.age<=1048576
theorem ES {c:Con}:gQ c=true↔c=⟨[],[],0,0⟩:=by
 obtain ⟨a,b,d,e⟩:=c
 unfold gQ
 simp
theorem A5 {c:Con} (h:gQ c=true\/bR c=0):SizOK c:=by
 rcases h with h | h
 .rw [ES] at h
  subst h
  exact ⟨by simp,by simp,by decide,by decide⟩
 .have h1:=(wM h).1
  unfold wU at h1
  exact ⟨by omega,by omega,by omega,by omega⟩
theorem NX {c:Con} (h:gQ c=true) (g:Gan):dM c g≠0:=by
 rw [ES] at h
 subst h
 intro e
 have h1:=(qM.1 e).2
 unfold aW at h1
 simp at h1
 omega
theorem AO {c:Con} (h:gQ c=true\/bR c=0) {g:Gan} (a:dM c g=0):bR c=0:=h.resolve_left fun e=>NX e g a
theorem aF0 (s:Sta):ids s=(s.pend++s.run.map Rn.pn).map fun x=>x.g.id:=by
 unfold ids
 rw [Bm,Dm]
 rfl
theorem aBC (s:Sta):seqs s=(s.pend++s.run.map Rn.pn).map fun x=>x.seq:=by
 unfold seqs
 rw [Bm,Dm]
 rfl
theorem X5 {s:Sta} {p:Pn}:pnB s p=true↔RQ s.c s.nxt s.now p:=by
 unfold pnB RQ
 simp only [Af,decide_eq_true_eq,Cm]
theorem aDS {s:Sta} (h:OkS s):xF s=true:=by
 have a:=h.ids
 rw [Bm,Br] at a
 unfold xF ZO
 simp only [Af,Eg,decide_eq_true_eq,Cj]
 refine ⟨⟨h.head,h.now,h.nxt,h.hist,h.few⟩,(aBP a.1).2 h.row,⟨fun p hp=>X5.2 (h.gang p (Dh _ hp)),fun r b=>?_⟩,by rw [aF0];exact h.ids,by rw [aBC];exact h.seqs,aB8.2 h.run.quo⟩
 have d:=h.gang r.pn (Cu _ (Ci b))
 refine ⟨X5.2 d,?_⟩
 obtain ⟨e,i,f,j⟩:=h.run.time r b
 unfold rnB
 simp only [Af,decide_eq_true_eq]
 have c:=a.2.1
 rw [Dm] at c
 exact ⟨⟨⟨e,i⟩,f⟩,aGC (AO h.head d.1) (fun x g=>gD (h.gang x.pn (Cu _ (Ci g))).1) c h.run.hst b (h.run.plc r b),j⟩
theorem OkS.base {s:Sta} (h:OkS s):Base s where
 c:=⟨by have:=(A5 h.head).ns;omega,by have:=(A5 h.head).hs;omega⟩
 ids:=h.ids
 seqs:=h.seqs
 few:=by rw [Ar,Cw];have:=h.few;omega
 gang x hx:=by
  have hn:=gD (h.gang x hx).1
  have:=hn.pods
  have:=hn.id
  exact ⟨by omega,hn.v,by omega⟩
theorem VL (s:Sta) {l:List Pn} (h:(l.map fun x=>x.seq).Nodup):Tot (ltP s) l:=by
 unfold Tot
 unfold Kr at h
 rw [Ff] at h
 exact h.imp fun h=>aCL s h
theorem OkS.st {s:Sta} (h:OkS s) (hl:LtF s.hist):StOK s:=by
 have hz:=A5 h.head
 have h1:=hz.ns
 have k:=hz.hs
 have h3:=hz.half
 have i:=hz.age
 have l:=h.hist
 have j:=h.few
 have f:=h.nxt
 have b:Sm s.run:=⟨by omega,fun x d=>by
  have:=(h.run.plc x d).1
  have:=(gD (h.gang x.pn (Cu _ (Ci d))).1).pods
  have e:x.pn.g=x.g:=rfl
  rw [e] at this
  omega⟩
 have a:=h.seqs
 rw [Bm,Br] at a
 exact ⟨h.base.c,⟨h.base,⟨by omega,by omega,by omega,b,by omega⟩,⟨h.base.c,h1,hl,by omega,h.now,by omega⟩,fun p hp=>(h.gang p (Dh _ hp)).2.2.2.1,VL s a.1⟩,by omega,by omega⟩
theorem RunP.filter {c:Con} {now:Int} {l:List Rn} (q:Rn->Bool) (b:∀ x∈l,NeedOK x.g) (h:RunP c now l):RunP c now (l.filter q):=
 ⟨fun r a=>h.time r (Dw.1 a).1,fun r a=>h.plc r (Dw.1 a).1,h.hst.filter q b,h.quo.filter q b⟩
theorem OkS.needs {s:Sta} (h:OkS s):∀ x∈s.run,NeedOK x.g:=fun x a=>gD (h.gang x.pn (Cu _ (Ci a))).1
theorem OkS.part {s:Sta} (h:OkS s) {pend:List Pn} {run:List Rn} {rest:List Pn} (hp:((pend++run.map Rn.pn)++rest).Perm (s.pend++s.run.map Rn.pn)) (hs:Srt pend) (hr:RunP s.c s.now run):OkS {s with pend:=pend,run:=run} where
 head:=h.head
 now:=h.now
 nxt:=h.nxt
 hist:=h.hist
 few:=by
  have h1:=hp.length_eq
  have h2:=h.few
  simp only [Ar,Cw] at h1
  show pend.length+run.length<=32
  omega
 row:=hs
 gang x hx:=h.gang x (hp.mem_iff.1 (Dh _ hx))
 ids:=by
  have h1:=((hp.map fun x=>x.g.id).nodup_iff).2 h.ids
  rw [Bm,Br] at h1
  exact h1.1
 seqs:=by
  have h1:=((hp.map fun x=>x.seq).nodup_iff).2 h.seqs
  rw [Bm,Br] at h1
  exact h1.1
 run:=hr
theorem BH {α:Type} (q:α->Bool):∀ (l:List α),(l.filter q++l.filter fun x=>!q x).Perm l
 | []=>Fc _
 | x::l=>by
  have b:=BH q l
  by_cases a:q x=true
  .rw [Em a,Ek (by rw [a];decide)]
   exact b.cons x
  .rw [Ek a,Em (by simpa using a)]
   exact Fq.trans (b.cons x)
theorem OkS.wo {s:Sta} (h:OkS s) (q:Rn->Bool):OkS {s with run:=s.run.filter q}:=by
 refine h.part (pend:=s.pend) (run:=s.run.filter q) (rest:=(s.run.filter fun x=>!q x).map Rn.pn) ?_ h.row (h.run.filter q h.needs)
 rw [Aj,<-Bm]
 exact Fl _ ((BH q s.run).map _)
theorem OkS.take {s:Sta} (h:OkS s) (a:Int):OkS {s with pend:=fO s.pend a}:=by
 have b:=h.run
 rcases GV a s.pend with ⟨_,e⟩ | ⟨A,p,B,c,f,d⟩
 .have:fO s.pend a=s.pend:=by unfold fO;rw [if_pos o_]
  rw [this]
  exact h
 .have e:fO s.pend a=A++B:=by
   unfold fO
   rw [if_neg o_,d,c]
   show (A++p::B).eraseIdx A.length=_
   rw [Im (Bg _),Lq]
   rfl
  refine h.part (pend:=fO s.pend a) (run:=s.run) (rest:=[p]) ?_ (H7 h.row) b
  rw [e,c]
  refine Gi.trans ?_
  show (p::((A++B)++_)).Perm _
  rw [Aj,Aj]
  exact Fq.symm
structure RK (s:Sta) (r:Rd):Prop where
 row:Srt r.s.pend
 run:RunP s.c s.now r.s.run
theorem RCore.gangA {s:Sta} {r:Rd} {rest:List Pn} (o:OkS s) (h:RCore s r rest):∀ x∈r.s.pend++r.s.run.map Rn.pn,RQ s.c s.nxt s.now x:=fun x a=>o.gang x (h.perm.mem_iff.1 a)
theorem RCore.needs {s:Sta} {r:Rd} {rest:List Pn} (o:OkS s) (h:RCore s r rest):∀ x∈r.s.run,NeedOK x.g:=fun x a=>gD (h.gangA o x.pn (Cu _ (Ci a))).1
theorem RK.adm {s:Sta} {r:Rd} {p:Pn} {rest:List Pn} (o:OkS s) (h:RCore s r (p::rest)) (k:RK s r) {x:Int×List Int} (e:cE r.s.c r.s.run p.g=some x):RK s (C0 r p x.1 x.2):=by
 have hp:=h.gangA o p (Dh _ (h.sub p (Az ..)))
 have d:=gD hp.1
 have n:=AO o.head hp.1
 rw [h.c] at e
 unfold cE at e
 split at e
 .rename_i hm
  obtain ⟨q,l⟩:=aAb d.v d.pods.1 d.lev e
  have t:=T7 d.pods.1 d.lev e
  obtain ⟨j,m,w⟩:=K6.1 l
  have b:=h.needs o
  refine ⟨H7 k.row,⟨fun y a=>?_,fun y a=>?_,?_,?_⟩⟩
  .rcases Ay.1 a with a | a
   .exact k.run.time y a
   .rw [Dd.1 a]
    have:=hp.2.2.2
    have:=d.run
    have:=o.now
    refine ⟨by show p.at'<=r.s.now;rw [h.now];omega,by show r.s.now<=s.now;rw [h.now];omega,?_,t⟩
    have i:=h.now
    unfold fC
    dsimp only
    split
    .omega
    .split<;>omega
  .rcases Ay.1 a with a | a
   .exact k.run.plc y a
   .rw [Dd.1 a]
    exact ⟨j,m,fun u f=>by have:=w u f;rw [A9] at this;exact ⟨this.1,this.2.1⟩⟩
  .exact k.run.hst.more n b d fun u f=>(q u f).2.2
  .exact k.run.quo.more b d hm (qM.1 hp.1).2
 .cases e
theorem KK (run:List Rn):∀ (ids:List Int) (r:Rd),Srt r.s.pend->((ids.map (fun id=>(xOf run id).pn)++r.s.pend).map fun x=>x.seq).Nodup->Srt (ids.foldl (dY run) r).s.pend
 | [],_,h,_=>h
 | id::ids,r,h,hn=>by
  rw [Al]
  have hp:=uI r.s.pend (xOf run id).pn
  rw [Bk,Je,Bk,Bw] at hn
  refine KK run ids (dY run r id) (PZ h fun x a e=>hn.1 ?_) ?_
  .have e:x.seq=(xOf run id).pn.seq:=e
   rw [<-e]
   exact Ci (Cu _ a)
  .have h1:(ids.map (fun id=>(xOf run id).pn)++(dY run r id).s.pend).Perm ((xOf run id).pn::(ids.map (fun id=>(xOf run id).pn)++r.s.pend)):=(Fl _ hp).trans Fq
   refine ((h1.map fun x=>x.seq).nodup_iff).2 ?_
   rw [Bk,Bw]
   exact hn
theorem RK.evic {s:Sta} {r:Rd} {rest:List Pn} (o:OkS s) (h:RCore s r rest) (k:RK s r) {ids:List Int} (b:ids.Nodup) (a:∀ id∈ids,0<=bB (cP id) r.s.run 0):RK s (kC r ids):=by
 refine ⟨KK r.s.run ids r k.row ?_,k.run.filter _ (h.needs o)⟩
 have h1:=(JH (h.once o.base) b a).map Rn.pn
 rw [Bm,Dm] at h1
 have c:((ids.map (fun id=>(xOf r.s.run id).pn)++r.s.pend)++(aC r.s.run ids).map Rn.pn).Perm (s.pend++s.run.map Rn.pn):=by
  refine Lx ?_ h.perm
  refine (Ga _ Gi).trans ?_
  rw [Aj]
  exact Fl _ h1
 have h3:=((c.map fun x=>x.seq).nodup_iff).2 o.seqs
 rw [Bm,Br] at h3
 exact h3.1
theorem RK.admR {s:Sta} {r:Rd} {p:Pn} {rest:List Pn} (o:OkS s) (h:RCore s r (p::rest)) (k:RK s r):RK s (Go.Proofs.YticlgfdibfobdaaGreat.admR r p).1:=by
 unfold Go.Proofs.YticlgfdibfobdaaGreat.admR
 cases a:cE r.s.c r.s.run p.g with
 | none=>exact k
 | some x=>
  obtain ⟨fl,hs⟩:=x
  unfold HO
  dsimp only
  split
  .exact k
  .exact k.adm o h a
theorem RK.look {s:Sta} {r:Rd} {p:Pn} {rest:List Pn} (o:OkS s) (h:RCore s r (p::rest)) (k:RK s r):RK s (cO r p):=by
 unfold cO
 split
 .exact k.admR o h
 .rename_i j
  split
  .exact k
  .rename_i i
   have b:r.head=false:=by cases d:r.head with | false=>rfl | true=>exact absurd d i
   have a:cE r.s.c r.s.run p.g=none:=by
    cases l:cE r.s.c r.s.run p.g with
    | none=>rfl
    | some x=>
     obtain ⟨fl,hs⟩:=x
     refine absurd ?_ j
     unfold Go.Proofs.YticlgfdibfobdaaGreat.admR
     rw [l]
     unfold HO
     dsimp only
     rw [b]
     rfl
   cases d:fT r.s.c r.s.run p.g with
   | none=>
    show RK s (mV r p _)
    cases rQ r.s.c r.s.now r.s.run p.g with
    | none=>exact k
    | some n=>exact ⟨k.row,k.run⟩
   | some ids=>
    obtain ⟨_,e,_,f,_⟩:=vD o.base h a d
    exact (k.evic o h e f).admR o (h.evic o.base e f)
theorem DG {s:Sta} (o:OkS s):∀ (L:List Pn) (r:Rd),HQ s r L->RK s r->RK s (L.foldl cO r)
 | [],_,_,k=>k
 | p::L,r,h,k=>DG o L (cO r p) (DJ o.base r p L h) (k.look o h.1)
theorem OkS.round {s:Sta} (o:OkS s) (hl:LtF s.hist):OkS (lF s).s:=by
 have hst:=(o.st hl).run.start
 have h1:=(yY o.base (uK s) _ hst).1
 have f:=DG o (uK s) _ hst ⟨o.row,o.run⟩
 have e:(lF s).s={s with pend:=(lF s).s.pend,run:=(lF s).s.run}:=by
  have a:=h1.c
  have b:=h1.now
  have c:=h1.nxt
  have d:=h1.hist
  change (lF s).s.c=s.c at a
  change (lF s).s.now=s.now at b
  change (lF s).s.nxt=s.nxt at c
  change (lF s).s.hist=s.hist at d
  rw [<-a,<-b,<-c,<-d]
 rw [e]
 refine o.part (rest:=[]) ?_ f.row f.run
 rw [Bo]
 exact h1.perm
theorem MG {s:Sta} (o:OkS s) (hl:LtF s.hist):(lF s).s.hist=s.hist/\(lF s).s.nxt=s.nxt/\(lF s).s.c=s.c/\(lF s).s.now=s.now:=by
 have h1:=(yY o.base (uK s) _ (o.st hl).run.start).1
 exact ⟨h1.hist,h1.nxt,h1.c,h1.now⟩
theorem aE3 (h b:List Nat) (n half:Int):LtF (tkL h b n half):=by
 unfold tkL
 have key:∀ (l:List Nat) (i:Nat),LtF (lA (tkS b n half) l i):=fun l=>by
  induction l with
  | nil=>intro i x a;cases a
  | cons y l c=>
   intro i x a
   rcases Ao.1 a with rfl | a
   .unfold tkS
    split
    .exact yC _ _
    .exact GA _ _
   .exact c (i+1) x a
 exact key h 0
theorem OkS.tick {s:Sta} (o:OkS s) (n:Int):OkS (sO s n).1/\(sO s n).1.nxt=s.nxt:=by
 unfold sO
 split
 .exact ⟨o,rfl⟩
 .split
  .exact ⟨o,rfl⟩
  .have c:=o.wo fun x=>decide (s.now+n<fC x)
   have g:=o.now
   refine ⟨⟨c.head,⟨by show 0<=s.now+n;omega,by show s.now+n<=_;omega⟩,c.nxt,?_,c.few,c.row,fun x j=>?_,c.ids,c.seqs,⟨fun r h=>?_,c.run.plc,c.run.hst,c.run.quo⟩⟩,rfl⟩
   .show (tkL _ _ _ _).length=_
    unfold tkL
    rw [mH]
    exact o.hist
   .obtain ⟨a,b,d,e,f⟩:=c.gang x j
    exact ⟨a,b,d,e,by show x.at'<=s.now+n;have f:x.at'<=s.now:=f;omega⟩
   .obtain ⟨a,b,d,e⟩:=c.run.time r h
    have i:=(Dw.1 h).2
    exact ⟨a,by show r.st<=s.now+n;have b:r.st<=s.now:=b;omega,of_decide_eq_true i,e⟩
theorem OkS.conf {s:Sta} (o:OkS s) {c:Con} (d:bR c=0) (h:¬ 0<s.pend.length+s.run.length):OkS {s with c:=c,hist:=Ah c.ns.length 0}:=by
 have hp:s.pend=[]:=Gy.1 o_
 have b:s.run=[]:=Gy.1 o_
 obtain ⟨g,now,nxt,pend,run,hist⟩:=s
 dsimp only at hp b
 subst hp b
 refine ⟨.inr d,o.now,o.nxt,by simp,by simp,Ms,fun x f=>(by cases f),Hn,Hn,⟨fun r b=>(by cases b),fun r b=>(by cases b),?_,XX d⟩⟩
 have key:∀ p:V3->Int,(∀ v,aM v=true->0<=p v)->pR p c []:=fun p a j e=>a _ (OH d e)
 exact ⟨key _ fun _ a=>(bP a).1.1,key _ fun _ a=>(bP a).2.1.1,key _ fun _ a=>(bP a).2.2.1⟩
theorem T9 {a:Int} {l:List Pn} (h:jB a l<0):∀ p∈l,p.g.id≠a:=by
 rcases GV a l with ⟨h1,_⟩ | ⟨A,p,B,_,_,h1⟩
 .exact h1
 .omega
theorem OkS.submit {s:Sta} (o:OkS s) (m:s.nxt<1099511627776) (g:Gan):OkS (gJ s g).1/\(gJ s g).1.nxt<=s.nxt+1/\s.nxt<=(gJ s g).1.nxt:=by
 unfold gJ
 iterate 4 (split;· exact ⟨o,by show s.nxt<=s.nxt+1;omega,Dc _⟩)
 rename_i h1 p h3 n
 have h1:dM s.c g=0:=Dz.1 h1
 refine ⟨?_,Dc _,by show s.nxt<=s.nxt+1;omega⟩
 have hp:=uI s.pend ⟨g,s.nxt,s.now⟩
 have h:(oQ s.pend ⟨g,s.nxt,s.now⟩++s.run.map Rn.pn).Perm (⟨g,s.nxt,s.now⟩::(s.pend++s.run.map Rn.pn)):=Ga _ hp
 have i:=o.now
 have j:=o.nxt
 refine ⟨o.head,o.now,⟨by show 1<=s.nxt+1;omega,by show s.nxt+1<=_;omega⟩,o.hist,?_,PZ o.row fun x f e=>?_,fun x f=>?_,?_,?_,o.run⟩
 .have:=hp.length_eq
  rw [Ba] at this
  show (oQ s.pend _).length+s.run.length<=32
  omega
 .have:=(o.gang x (Dh _ f)).2.2.1
  have e:x.seq=s.nxt:=e
  omega
 .rcases Ao.1 (h.mem_iff.1 f) with rfl | f
  .refine ⟨h1,by cases k:(cE s.c [] g).isNone with | true=>exact absurd k h3 | false=>rfl,⟨by show 0<=s.nxt;omega,by show s.nxt<s.nxt+1;omega⟩,i.1,Dc _⟩
  .obtain ⟨a,b,d,e⟩:=o.gang x f
   exact ⟨a,b,⟨d.1,by show x.seq<s.nxt+1;omega⟩,e⟩
 .refine ((h.map fun x=>x.g.id).nodup_iff).2 (Bw.2 ⟨fun hm=>?_,o.ids⟩)
  obtain ⟨x,f,e⟩:=Bu.1 hm
  have e:x.g.id=g.id:=e
  rcases Ay.1 f with f | f
  .exact T9 o_ x f e
  .obtain ⟨r,l,rfl⟩:=Bu.1 f
   have:=BF s.run 0 r l e
   omega
 .refine ((h.map fun x=>x.seq).nodup_iff).2 (Bw.2 ⟨fun hm=>?_,o.seqs⟩)
  obtain ⟨x,f,e⟩:=Bu.1 hm
  have:=(o.gang x f).2.2.1
  have e:x.seq=s.nxt:=e
  omega
structure OkT (s:Sta):Prop where
 ok:OkS s
 lt:LtF s.hist
theorem OkT.apply {s:Sta} (o:OkT s) (c:s.nxt<1099511627776) (x:Cmd):OkT (nO s x).1/\(nO s x).1.nxt<=s.nxt+1/\s.nxt<=(nO s x).1.nxt:=by
 have same:OkT s/\s.nxt<=s.nxt+1/\s.nxt<=s.nxt:=⟨o,by omega,Dc _⟩
 unfold nO
 split
 .exact same
 split
 .split
  .exact same
  .rename_i e
   split
   .exact same
   .rename_i b
    refine ⟨⟨o.ok.conf (Dz.1 e) b,fun y d=>?_⟩,same.2⟩
    have:=List.eq_of_mem_replicate d
    omega
 split
 .obtain ⟨h1,a⟩:=o.ok.submit c x.g
  refine ⟨⟨h1,?_⟩,a⟩
  have:(gJ s x.g).1.hist=s.hist:=by
   unfold gJ
   iterate 4 (split;· rfl)
   rfl
  rw [this]
  exact o.lt
 split
 .obtain ⟨h1,a⟩:=o.ok.tick x.n
  refine ⟨⟨h1,?_⟩,by rw [a];exact same.2⟩
  unfold sO
  split
  .exact o.lt
  .split
   .exact o.lt
   .exact aE3 _ _ _ _
 split
 .obtain ⟨h1,a,_⟩:=MG o.ok o.lt
  refine ⟨⟨o.ok.round o.lt,?_⟩,?_⟩
  .show LtF (lF s).s.hist
   rw [h1]
   exact o.lt
  .show (lF s).s.nxt<=_/\_<=(lF s).s.nxt
   rw [a]
   exact same.2
 split
 .exact ⟨⟨o.ok.wo _,o.lt⟩,same.2⟩
 split
 .exact same
 .exact ⟨⟨o.ok.take _,o.lt⟩,same.2⟩
theorem aBy:OkT tY:=by
 refine ⟨⟨.inl d_,by decide,by decide,rfl,by decide,Ms,fun x a=>(by cases a),Hn,Hn,⟨fun r b=>(by cases b),fun r b=>(by cases b),⟨?_,?_,?_⟩,?_⟩⟩,fun x a=>(by cases a)⟩
 all_goals exact fun j c=>absurd c (Nat.not_lt_zero _)
def two (a:Int) (b:Int) (x:Rn):Bool:=!((x.g.id==a)||(x.seq==b))
structure FairP (s:Sta):Prop where
 few:aIp s.c s.now s.run=1
 pend:s.pend.length<=32
 row:WT s.pend=true
 hist:s.hist.length=s.c.ns.length
 gang:∀ p∈s.pend,aEx s.c.ns p.g≠0/\0<=p.at'/\p.at'<=s.now
 two:∀ p∈s.pend,∀ x∈s.run,x.g.id≠p.g.id/\x.seq≠p.seq
 once:s.run.Pairwise fun a b=>a.g.id≠b.g.id/\a.seq≠b.seq
structure FairS (s:Sta):Prop where
 siz:SizOK s.c
 chk:gQ s.c=true\/bR s.c=0
 now:0<=s.now/\s.now<=1099511627776
 nxt:1<=s.nxt/\s.nxt<=1099511627776
 few:s.pend.length+s.run.length<=32
 hist:s.hist.length=s.c.ns.length
 row:Srt s.pend
 ids:((s.pend++s.run.map Rn.pn).map fun x=>x.g.id).Nodup
 seqs:((s.pend++s.run.map Rn.pn).map fun x=>x.seq).Nodup
 need:∀ x∈s.pend++s.run.map Rn.pn,NeedOK x.g
 at':∀ p∈s.pend,0<=p.at'/\p.at'<=s.now
 hs:∀ x∈s.run,x.hs.length<=16
theorem FairS.base {s:Sta} (h:FairS s):Base s where
 c:=⟨by have:=h.siz.ns;omega,by have:=h.siz.hs;omega⟩
 ids:=h.ids
 seqs:=h.seqs
 few:=by rw [Ar,Cw];have:=h.few;omega
 gang x hx:=by
  have hn:=h.need x hx
  have:=hn.pods
  have:=hn.id
  exact ⟨by omega,hn.v,by omega⟩
def Ev.eqb (x y:Ev):Bool:=(x.k==y.k)&&((x.id==y.id)&&((x.n==y.n)&&true))
def Pn.eqb (x y:Pn):Bool:=(x.g.id==y.g.id)&&((x.g.ten==y.g.ten)&&((x.g.pods==y.g.pods)&&((x.g.need.a==y.g.need.a)&&((x.g.need.b==y.g.need.b)&&((x.g.need.c==y.g.need.c)&&((x.g.run==y.g.run)&&((x.g.lev==y.g.lev)&&((x.g.pref==y.g.pref)&&((x.seq==y.seq)&&((x.at'==y.at')&&true))))))))))
theorem GZ {α:Type} [DecidableEq α] {f:α->α->Bool} (c:∀ x y,f x y=true↔x=y):∀ (a b:List α),C8.eqL f a b=decide (a=b)
 | [],[]=>rfl
 | [],_::_=>rfl
 | _::_,[]=>rfl
 | x::r,y::s=>by
  show (f x y&&C8.eqL f r s)=_
  rw [GZ c r s]
  cases h:f x y with
  | true=>
   have:=(c x y).1 h
   subst this
   simp
  | false=>
   have:x≠y:=fun e=>by rw [(c x y).2 e] at h;cases h
   simp [this]
noncomputable abbrev aHH:Func:=Tryz.f121
theorem YO (x y:Rn) (j:x.hs.length=y.hs.length) (n:x.hs.length<=1048576) (r:Bool):∀ (m i:Nat),i+m=x.hs.length->decide (x.hs.drop i=y.hs.drop i)=r->
  To E aHH (.pure (.ret (.bool r))) (.head (stk aHH 0) [(2,.ref 0 0),(3,.ref 1 0),(5,.int .i64 i)] [.cells 127 x.cs,.cells 127 y.cs]):=by
 have f:(iv x.hs).length=x.hs.length:=by simp
 intro m
 induction m with
 | zero=>
  intro i h a
  rw [Ae o_,Ae o_] at a
  have a:true=r:=a
  subst a
  refine gV ?_
  exact zW
 | succ m d=>
  intro i h a
  have c:i<x.hs.length:=o_
  have b:i<y.hs.length:=o_
  rw [Ac c,Ac b] at a
  have l:=cH c
  have k:=cH b
  generalize x.hs[i]=u at l a
  generalize y.hs[i]=v at k a
  have next:=d (i+1) o_
  by_cases h1:u=v
  .have g:(u !=v)=false:=by simpa using h1
   have next:=next (by rw [<-a,h1];exact decide_eq_decide.2 ⟨fun e=>by rw [e],fun e=>(Fu e).2⟩)
   clear d a
   refine gV ?_
   exact zW
  .have g:(u !=v)=true:=by simpa using h1
   have a:false=r:=by rw [<-a,decide_eq_false fun e=>h1 (Fu e).1]
   subst a
   clear d next
   refine gV ?_
   exact zW
theorem aFH (x y:Rn) (s:x.hs.length<=1048576):aA Tryz.prog 121 [x.av,y.av] [] (.ret (.bool (decide (x=y)))) []:=by
 have o:(iv x.hs).length=x.hs.length:=by simp
 have q:(iv y.hs).length=y.hs.length:=by simp
 have a:(false !=false)=false:=rfl
 by_cases h1:x.g=y.g
 .have t:(!(Gan.eqb x.g y.g))=false:=by rw [Gan.eqb_eq.2 h1];rfl
  by_cases k:x.seq=y.seq
  .have p:(x.seq !=y.seq)=false:=by simpa using k
   by_cases h3:x.at'=y.at'
   .have m:(x.at' !=y.at')=false:=by simpa using h3
    by_cases i:x.st=y.st
    .have l:(x.st !=y.st)=false:=by simpa using i
     by_cases d:x.fl=y.fl
     .have j:(x.fl !=y.fl)=false:=by simpa using d
      by_cases n:x.hs.length=y.hs.length
      .have b:(((iv x.hs).length:Int) !=((iv y.hs).length:Int))=false:=by rw [o,q,n];simp
       have c:=b
       have u:decide (x.hs.drop 0=y.hs.drop 0)=decide (x=y):=by
              rw [Cn,Cn]
              obtain ⟨w,I,C,J,D,K⟩:=x
              obtain ⟨v,G,B,H,F,z⟩:=y
              dsimp only at h1 k h3 i d
              subst h1 k h3 i d
              simp
       have next:=YO x y n s _ x.hs.length 0 o_ u
       generalize decide (x=y)=r at *
       exact zqya3
      .have c:(((iv x.hs).length:Int) !=((iv y.hs).length:Int))=true:=by rw [o,q];simp;omega
       have b:=a
       rw [decide_eq_false fun e=>n (by rw [e])]
       exact zqya3
     .have c:(x.fl !=y.fl)=true:=by simpa using d
      have j:=a
      have b:=a
      rw [decide_eq_false fun e=>d (by rw [e])]
      exact zqya3
    .have c:(x.st !=y.st)=true:=by simpa using i
     have l:=a
     have j:=a
     have b:=a
     rw [decide_eq_false fun e=>i (by rw [e])]
     exact zqya3
   .have c:(x.at' !=y.at')=true:=by simpa using h3
    have m:=a
    have l:=a
    have j:=a
    have b:=a
    rw [decide_eq_false fun e=>h3 (by rw [e])]
    exact zqya3
  .have c:(x.seq !=y.seq)=true:=by simpa using k
   have p:=a
   have m:=a
   have l:=a
   have j:=a
   have b:=a
   rw [decide_eq_false fun e=>k (by rw [e])]
   exact zqya3
 .have c:(!(Gan.eqb x.g y.g))=true:=by
   cases h:Gan.eqb x.g y.g with
   | false=>rfl
   | true=>exact absurd (Gan.eqb_eq.1 h) h1
  have t:=a
  have p:=a
  have m:=a
  have l:=a
  have j:=a
  have b:=a
  rw [decide_eq_false fun e=>h1 (by rw [e])]
  exact zqya3
noncomputable abbrev aHx:Func:=Tryz.f47
theorem V6 (a b:List Rn) (l:a.length=b.length) (hs:Sm a) (r:Bool):∀ (m i:Nat),i+m=a.length->decide (a.drop i=b.drop i)=r->
  To E aHx (.pure (.ret (.bool r))) (.head (stk aHx 0) [(0,.slice 14 (rav a) .no),(1,.slice 14 (rav b) .no),(5,.int .i64 i)] []):=by
 have j:(rav a).length=a.length:=by simp
 have hl:=hs.1
 intro m
 induction m with
 | zero=>
  exact zqya8
 | succ m h=>
  intro i k c
  have f:i<a.length:=o_
  have d:i<b.length:=o_
  rw [Ac f,Ac d] at c
  have o:=dH f
  have n:=dH d
  have g:=aFH a[i] b[i] (hs.at f)
  generalize a[i]=u at o c g
  generalize b[i]=v at n c g
  have next:=h (i+1) o_
  by_cases h1:u=v
  .rw [decide_eq_true h1] at g
   have next:=next (by rw [<-c,h1];exact decide_eq_decide.2 ⟨fun e=>by rw [e],fun e=>(Fu e).2⟩)
   clear h c
   refine gV ?_
   exact zW
  .rw [decide_eq_false h1] at g
   have c:false=r:=by rw [<-c,decide_eq_false fun e=>h1 (Fu e).1]
   subst c
   clear h next
   refine gV ?_
   exact zW
theorem aFa (a b:List Rn) (hs:Sm a):aA Tryz.prog 47 [.slice 14 (rav a) .no,.slice 14 (rav b) .no] [] (.ret (.bool (decide (a=b)))) []:=by
 have c:(rav a).length=a.length:=by simp
 have d:(rav b).length=b.length:=by simp
 by_cases h1:a.length=b.length
 .have h:(((rav a).length:Int) !=((rav b).length:Int))=false:=by rw [c,d,h1];simp
  have next:=V6 a b h1 hs _ a.length 0 o_ (show _=decide (a=b) by rw [Cn,Cn])
  generalize decide (a=b)=r at *
  exact c_ Tryz.f47 fun _=>zW
 .have h:(((rav a).length:Int) !=((rav b).length:Int))=true:=by rw [c,d];simp;omega
  rw [decide_eq_false fun e=>h1 (by rw [e])]
  exact c_ Tryz.f47 fun _=>zW
noncomputable abbrev aHK:Func:=Tryz.f48
theorem ZC (a b:List Nat) (l:a.length=b.length) (hl:a.length<=1048576) (r:Bool):∀ (m i:Nat),i+m=a.length->decide (a.drop i=b.drop i)=r->
  To E aHK (.pure (.ret (.bool r))) (.head (stk aHK 0) [(0,.slice 1 (fv a) .no),(1,.slice 1 (fv b) .no),(5,.int .i64 i)] []):=by
 have h:(fv a).length=a.length:=by simp
 intro m
 induction m with
 | zero=>
  exact zqya8
 | succ m g=>
  intro i k c
  have f:i<a.length:=o_
  have d:i<b.length:=o_
  rw [Ac f,Ac d] at c
  have o:(fv a)[i]? =some (uu a[i]):=by simp [f]
  have n:(fv b)[i]? =some (uu b[i]):=by simp [d]
  generalize a[i]=u at o c
  generalize b[i]=v at n c
  have next:=g (i+1) o_
  by_cases h1:u=v
  .have j:((u:Int) !=(v:Int))=false:=by simp [h1]
   have next:=next (by rw [<-c,h1];exact decide_eq_decide.2 ⟨fun e=>by rw [e],fun e=>(Fu e).2⟩)
   clear g c
   refine gV ?_
   exact zW
  .have j:((u:Int) !=(v:Int))=true:=by simp;omega
   have c:false=r:=by rw [<-c,decide_eq_false fun e=>h1 (Fu e).1]
   subst c
   clear g next
   refine gV ?_
   exact zW
theorem aFT (a b:List Nat) (hl:a.length<=1048576):aA Tryz.prog 48 [.slice 1 (fv a) .no,.slice 1 (fv b) .no] [] (.ret (.bool (decide (a=b)))) []:=by
 have c:(fv a).length=a.length:=by simp
 have d:(fv b).length=b.length:=by simp
 by_cases h1:a.length=b.length
 .have h:(((fv a).length:Int) !=((fv b).length:Int))=false:=by rw [c,d,h1];simp
  have next:=ZC a b h1 hl _ a.length 0 o_ (show _=decide (a=b) by rw [Cn,Cn])
  generalize decide (a=b)=r at *
  exact c_ Tryz.f48 fun _=>zW
 .have h:(((fv a).length:Int) !=((fv b).length:Int))=true:=by rw [c,d];simp;omega
  rw [decide_eq_false fun e=>h1 (by rw [e])]
  exact c_ Tryz.f48 fun _=>zW
def PK (a b:Sta):Bool:=(a.now==b.now)&&((a.nxt==b.nxt)&&(C8.sameC a.c b.c&&(decide (a.pend=b.pend)&&(decide (a.run=b.run)&&decide (a.hist=b.hist)))))
theorem aEn:∀ {a b:List Pn},a.map Pn.q=b.map Pn.q->a=b
 | [],[],_=>rfl
 | [],_::_,h=>by cases h
 | _::_,[],h=>by cases h
 | x::a,y::b,h=>by
  obtain ⟨h1,c⟩:=Fu h
  rw [aEn c]
  obtain ⟨⟨_,_,_,⟨_,_,_⟩,_,_,_⟩,_,_⟩:=x
  obtain ⟨⟨_,_,_,⟨_,_,_⟩,_,_,_⟩,_,_⟩:=y
  simp only [Pn.q,Q2.Pend.mk.injEq] at h1
  obtain ⟨rfl,rfl,rfl,rfl,rfl,rfl,rfl,rfl,rfl,rfl,rfl⟩:=h1
  rfl
theorem SE (a b:Sta) (hs:Sm a.run) (l:a.hist.length<=1048576) (r:Bool) (d:PK a b=r):aA Tryz.prog 14 [a.av,b.av] [] (.ret (.bool r)) []:=by
 have h1:=C8.rsame_c a.c b.c
 have n:=Q2.same_ok (a.pend.map Pn.q) (b.pend.map Pn.q)
 rw [show decide (a.pend.map Pn.q=b.pend.map Pn.q)=decide (a.pend=b.pend) from decide_eq_decide.2 ⟨aEn,fun e=>by rw [e]⟩,wC,wC] at n
 have h3:=aFa a.run b.run hs
 have o:=aFT a.hist b.hist l
 unfold PK at d
 generalize C8.sameC a.c b.c=q1 at *
 generalize decide (a.pend=b.pend)=q2 at *
 generalize decide (a.run=b.run)=q3 at *
 generalize decide (a.hist=b.hist)=q4 at *
 have m:(true&&false)=false:=rfl
 have j:(true&&true)=true:=rfl
 cases i:(a.now==b.now) with
 | false=>
  rw [i] at d
  have d:false=r:=d
  subst d
  have k:=i
  have i:=j
  have h:=j
  exact zqya5
 | true=>
  rw [i] at d
  cases h:(a.nxt==b.nxt) with
  | false=>
   rw [h] at d
   have d:false=r:=d
   subst d
   have k:=h
   have h:=j
   exact zqya5
  | true=>
   rw [h] at d
   have k:=m
   cases q1 with
   | false=>
    exact zqya10
   | true=>
    cases q2 with
    | false=>
     exact zqya10
    | true=>
     cases q3 with
     | false=>
      exact zqya10
     | true=>
      have d:q4=r:=d
      subst d
      exact zqya5
theorem SD {c d:Con}:C8.sameC c d=true↔c=d:=by
 obtain ⟨h,k,i,b⟩:=c
 obtain ⟨e,a,g,j⟩:=d
 unfold C8.sameC
 rw [GZ (f:=Nod.eqb) (fun _ _=>Nod.eqb_eq),GZ (f:=Hos.eqb) (fun _ _=>Hos.eqb_eq)]
 simp
theorem L8 (a:Sta):PK a a=true:=by
 unfold PK
 rw [SD.2 rfl]
 simp
def OkL (s:Sta) (l:List Cmd):Prop:=OkT s/\s.nxt+(l.length:Int)<=1099511627776/\∀ x∈l,x.k=1->x.c.sm
theorem OkT.small {s:Sta} (h:OkT s):Sm s.run/\s.hist.length<=1048576:=by
 have h1:=(h.ok.st h.lt).run
 exact ⟨h1.sm.run,h1.ord.hl⟩
theorem jT {n:Nat} (h:n<128):C8.putN n=[Gk n]:=by rw [C8.putN,if_pos h]
theorem aCz:xF tY=true:=by rfl
theorem aCx:xF Sta.nil=false:=by rfl
def JU:List UInt8:=[5,1,0,0,0,0,0,1,0,0,0]
theorem P7:pK tY=[1,0,0,0,0]:=by
 have a:C8.putN (0:Int).toNat=[0]:=jT d_
 have b:C8.putN (1:Int).toNat=[1]:=jT d_
 have e:pK tY=C8.pl [1,0,0,0,0]:=by
  unfold pK C8.encB
  rw [if_pos (by rfl)]
  rfl
 rw [e]
 simp only [C8.pl,a,b]
 rfl
theorem aCy:eZ tY=JU:=by
 have a:C8.putN (0:Int).toNat=[0]:=jT d_
 have b:C8.putN (1:Int).toNat=[1]:=jT d_
 have c:C8.putN 5=[5]:=jT d_
 unfold eZ
 rw [P7]
 show C8.putN 5++[1,0,0,0,0]++C8.pl [(0:Int),1,0]++[]++C8.pl [(0:Int)]++[]++C8.pl [(0:Int)]++[]=_
 simp only [C8.pl,a,b,c]
 rfl
theorem aAI:Con.sm ⟨[],[],0,0⟩:=⟨Bt _,Bt _⟩
theorem MA:Sm []:=⟨Bt _,fun y a=>by cases a⟩
theorem aDu:aA Tryz.prog 17 [tY.av] [] (.ret (.tup [.str JU,ii 0])) []:=by
 have:=aBD tY aAI MA fun _=>⟨(by rw [P7];decide),by decide,by decide,by decide,by decide,(fun x a=>by cases a),(fun x a=>by cases a)⟩
 unfold aGl at this
 rw [aCz,if_pos rfl,aCy] at this
 exact this
theorem aDL:aA Tryz.prog 18 [.str JU] [] (.ret (.tup [tY.av,ii 0])) []:=by
 have:=PI JU d_
 have e:aAE JU=some tY:=by rfl
 unfold PJ aDK at this
 rw [e] at this
 exact this
theorem aDJ:aA Tryz.prog 18 [.str (JU++[120])] [] (.ret (.tup [Sta.nil.av,ii 10])) []:=by
 have:=PI (JU++[120]) d_
 have e:aAE (JU++[120])=none:=by rfl
 unfold PJ aDK at this
 rw [e] at this
 exact this
theorem aDU:aA Tryz.prog 9 [Sta.nil.av] [] (.ret (ii 1)) []:=by
 have:=qC Sta.nil aAI MA
 rw [aCx] at this
 exact this
theorem OJ:aA Tryz.prog 7 [] [] (.ret (.bool true)) []:=by
 have hs:=SE tY tY MA (Bt _) true (L8 tY)
 have h1:=aDu
 have b:=aDL
 have h3:=aDJ
 have a:=aDU
 have c:=PO
 refine c_ Tryz.f7 fun _=>?_
 repeat' first | (refine gN hE ?_;conv=>whnf) | refine .pure _ [] c ?_ | refine .pure _ [] h1 ?_ | refine .pure _ [] b ?_ | refine .pure _ [] h3 ?_ | refine .pure _ [] hs ?_ | refine .pure _ [] (aA.strip a) ?_ | refine .pure _ [] a ?_ | exact rfl | refine aY ?_ | refine aN ?_ | refine aT fun h=>?_ | refine aF fun h=>?_ | refine ⟨fun h=>?_,fun h=>?_⟩ | refine aJ ?_ | refine ⟨_,rfl,?_⟩ | refine aD ?_ | fail
noncomputable abbrev fSN:Func:=Tryz.f3
theorem YK {s:Sta} {x:Cmd} {l:List Cmd} (h:OkL s (x::l)):OkL (nO s x).1 l:=by
 obtain ⟨h1,b,h3⟩:=h
 rw [Ba] at b
 obtain ⟨a,e,d⟩:=h1.apply o_ x
 exact ⟨a,by omega,fun y c=>h3 y (Bb _ c)⟩
theorem aCn {s:Sta} (h:OkT s):aA Tryz.prog 9 [s.av] [] (.ret (ii 0)) []:=by
 have:=qC s h.ok.base.c h.small.1
 rw [aDS h.ok] at this
 exact this
theorem aBA (L:List Cmd) (v:L.length<=1048576) (t:∀ x∈L,x.c.sm) (u:∀ x∈L,-9223372036854775808<=x.n/\x.n<=9223372036854775807):∀ (m i:Nat) (s:Sta),i+m=L.length->OkL s (L.drop i)->
  To (Er [] [41,42]) fSN (.pure (.ret (.bool true))) (.head (stk fSN 0) [(0,.slice 15 (cmv L) .no),(3,.ref 0 0),(4,ii i)] [aE8 s]):=by
 have k:(cmv L).length=L.length:=by simp
 have l:=OJ
 intro m
 induction m with
 | zero=>
  intro i s p _
  refine gV ?_
  refine aF fun h=>?_
  repeat' first | (refine gN (hEr [] [41,42]) ?_;conv=>whnf) | refine .pure _ [] l ?_ | exact rfl | refine aY ?_ | refine aN ?_ | refine aT fun h=>?_ | refine aF fun h=>?_ | refine ⟨fun h=>?_,fun h=>?_⟩ | refine aJ ?_ | refine ⟨_,rfl,?_⟩ | refine aD ?_ | fail
 | succ m j=>
  intro i s p f
  have a:i<L.length:=o_
  have b:=t L[i] (Bf a)
  have g:=u L[i] (Bf a)
  rw [Ac a] at f
  have get:(cmv L)[i]? =some L[i].av:=by simp [a]
  generalize L[i]=x at f get b g
  have A:(nav x.c.ns).length=x.c.ns.length:=by simp
  have y:(hav x.c.hs).length=x.c.hs.length:=by simp
  have w:=b.ns
  have z:=b.hs
  have o:=UY s x (f.1.ok.st f.1.lt) (fun _=>b) g
  have d:=YK f
  have q:=aCn d.1
  have next:=j (i+1) (nO s x).1 o_ d
  unfold apC at o
  generalize nO s x=r at *
  obtain ⟨S,ev,e⟩:=r
  dsimp only at *
  clear j d f
  refine gV ?_
  refine aT fun h=>?_
  repeat' first | (refine gN (hEr [] [41,42]) ?_;conv=>whnf) | refine ⟨i,rfl,?_⟩ | refine ⟨_,get,?_⟩ | refine .pure _ [] o ?_ | refine .pure _ [] q ?_ | refine .pure _ [] l ?_ | exact rfl | refine aY ?_ | refine aN ?_ | refine aT fun h=>?_ | refine aF fun h=>?_ | refine ⟨fun h=>?_,fun h=>?_⟩ | refine aJ ?_ | refine ⟨_,rfl,?_⟩ | refine aD ?_ | fail
  refine To.part [0,3,4] [0] rfl rfl rfl ?_
  exact next
theorem R5 (L:List Cmd) (b:L.length<=1048576) (a:∀ x∈L,x.c.sm) (d:∀ x∈L,-9223372036854775808<=x.n/\x.n<=9223372036854775807):aA Tryz.prog 3 [.slice 15 (cmv L) .no] [] (.ret (.bool true)) []:=by
 have i:=PO
 have next:=aBA L b a d L.length 0 tY o_ (by rw [Cn];exact ⟨aBy,by show (1:Int)+_<=_;omega,fun x e _=>a x e⟩)
 refine cT (E:=(Er [] [41,42])) (fn:=Tryz.f3) (g:=.pure _) fun _=>?_
 repeat' first | (refine gN (hEr [] [41,42]) ?_;conv=>whnf) | refine .pure _ [] i ?_ | exact rfl | refine aY ?_ | refine aN ?_ | refine aT fun h=>?_ | refine aF fun h=>?_ | refine ⟨fun h=>?_,fun h=>?_⟩ | refine aJ ?_ | refine ⟨_,rfl,?_⟩ | refine aD ?_ | fail
 refine To.part [0,3,4] [0] rfl rfl rfl ?_
 exact next
open Go.ChangeShapes Go.WideShapes Go.ChangeAt Go.RowKit
set_option maxRecDepth 100000
theorem aAP {H:Type} (d:DataW H):1<=Rows.uptoBulk d:=by
 cases d with
 | lit l=>cases l<;>simp [Rows.uptoBulk]
 | _=>simp [Rows.uptoBulk]
theorem vJ {H:Type} {d:DataW H}:∀ {l:List (DataW H)},d∈l->Rows.uptoBulk d<=Rows.uptoBulkAll l
 | [],h=>by cases h
 | x::r,h=>by
  simp only [Rows.uptoBulkAll]
  rcases Ao.1 h with rfl | h
  .omega
  .have:=vJ h
   omega
theorem LJ {H:Type}:∀ (l:List (DataW H)),l.length<=Rows.uptoBulkAll l
 | []=>by simp
 | x::r=>by
  have:=aAP x
  have:=LJ r
  simp only [Rows.uptoBulkAll,Ba]
  omega
theorem aH1 (H:Type) (N:Nat):Bulk H N (fun d=>Rows.uptoBulk d<=N) where
 str l h:=by
  simp only [Rows.uptoBulk] at h
  omega
 sl e r h:=by
  simp only [Rows.uptoBulk] at h
  have:=LJ e
  exact ⟨by omega,fun d hd=>by have:=vJ hd;omega⟩
 agg l h:=by
  simp only [Rows.uptoBulk] at h
  exact fun d hd=>by have:=vJ hd;omega
section
variable {N:Nat}
theorem aE0 {n:Nat} {cs:List AVal} (h:TyN Tryz.prog N (n+1) 3 cs):∃ m:Int,cs=[ii m]/\ -9223372036854775808<=m/\m<=9223372036854775807:=by
 unfold TyN at h
 rw [Tryz.underlying3] at h
 obtain ⟨m,h,h1,a⟩:=h
 simp only [cL,bI] at h1 a
 exact ⟨m,h,by omega,by omega⟩
theorem iL {n:Nat} {cs:List AVal} (h:TyN Tryz.prog N (n+1) 3 cs):∃ m:Int,cs=[ii m]:=by
 unfold TyN at h
 rw [Tryz.underlying3] at h
 obtain ⟨m,h,_⟩:=h
 exact ⟨m,h⟩
theorem H6 {n:Nat} {cs:List AVal} (h:TyN Tryz.prog N (n+2) 34 cs):∃ v:V3,cs=v.cs:=by
 unfold TyN at h
 rw [Tryz.underlying34] at h
 obtain ⟨xs,hl,d,rfl⟩:=h
 match xs,hl,d with
 | [x,y,z],_,d=>
  obtain ⟨a,rfl⟩:=iL (d x s_)
  obtain ⟨b,rfl⟩:=iL (d y s_)
  obtain ⟨c,rfl⟩:=iL (d z s_)
  exact ⟨⟨a,b,c⟩,rfl⟩
theorem aE2 {n:Nat} {cs:List AVal} (h:TyN Tryz.prog N (n+3) 36 cs):∃ g:Gan,cs=g.cs:=by
 unfold TyN at h
 rw [Tryz.underlying36] at h
 obtain ⟨q,r,rfl,e,w,r,rfl,h1,p,r,rfl,l,o,r,rfl,h3,u,r,rfl,j,x,r,rfl,d,s,r,rfl,k,rfl⟩:=h
 obtain ⟨b,rfl⟩:=iL e
 obtain ⟨a,rfl⟩:=iL h1
 obtain ⟨f,rfl⟩:=iL l
 obtain ⟨v,rfl⟩:=H6 h3
 obtain ⟨i,rfl⟩:=iL j
 obtain ⟨c,rfl⟩:=iL d
 obtain ⟨m,rfl⟩:=iL k
 exact ⟨⟨b,a,f,v,i,c,m⟩,rfl⟩
theorem RO {α:Type} {av:α->AVal} {P:AVal->Prop} {Q:α->Prop} (b:∀ x,P x->∃ p:α,x=av p/\Q p):∀ (xs:List AVal),(∀ x∈xs,P x)->∃ l:List α,xs=l.map av/\∀ p∈l,Q p
 | [],_=>⟨[],rfl,fun p h=>by cases h⟩
 | x::xs,h=>by
  obtain ⟨p,rfl,hp⟩:=b x (h x s_)
  obtain ⟨l,rfl,hl⟩:=RO b xs fun x c=>h x (by simp [c])
  exact ⟨p::l,rfl,fun q a=>by
   rcases Ao.1 a with rfl | a
   .exact hp
   .exact hl q a⟩
end
section
variable {N:Nat}
theorem aEZ {n:Nat} {cs:List AVal} (h:TyN Tryz.prog N (n+3) 80 cs):∃ x:Nod,cs=x.cs:=by
 unfold TyN at h
 rw [Tryz.underlying80] at h
 obtain ⟨i,r,rfl,c,k,r,rfl,h1,g,r,rfl,e,f,r,rfl,h3,j,r,rfl,d,rfl⟩:=h
 obtain ⟨b,rfl⟩:=iL c
 obtain ⟨a,rfl⟩:=iL h1
 obtain ⟨u,rfl⟩:=H6 e
 obtain ⟨v,rfl⟩:=H6 h3
 obtain ⟨w,rfl⟩:=H6 d
 exact ⟨⟨b,a,u,v,w⟩,rfl⟩
theorem aE1 {n:Nat} {cs:List AVal} (h:TyN Tryz.prog N (n+3) 82 cs):∃ x:Hos,cs=x.cs:=by
 unfold TyN at h
 rw [Tryz.underlying82] at h
 obtain ⟨f,r,rfl,e,i,r,rfl,h1,j,r,rfl,d,g,r,rfl,h3,rfl⟩:=h
 obtain ⟨b,rfl⟩:=iL e
 obtain ⟨c,rfl⟩:=iL h1
 obtain ⟨a,rfl⟩:=iL d
 obtain ⟨v,rfl⟩:=H6 h3
 exact ⟨⟨b,c,a,v⟩,rfl⟩
theorem aBp {n:Nat} {cs:List AVal} (h:TyN Tryz.prog N (n+4) 23 cs):∃ l:List Nod,cs=[.slice 11 (nav l) .no]/\l.length<=N:=by
 unfold TyN at h
 rw [Tryz.underlying23] at h
 obtain ⟨xs,rfl,b,a⟩:=h
 have c:Tryz.prog.cellsOf 80=11:=by kernel_rfl
 obtain ⟨l,rfl,hl⟩:=RO (av:=Nod.av) (Q:=fun x=>True) (P:=fun x=>x∈xs) (fun x hm=>by
  obtain ⟨cs,rfl⟩:=(a x hm).2.1 (by kernel_rfl)
  obtain ⟨p,hp⟩:=aEZ (n:=n) (a _ hm).1
  exact ⟨p,by unfold Nod.av;rw [<-hp];rfl,trivial⟩) xs fun x hm=>hm
 exact ⟨l,by rw [c],by simpa using b⟩
theorem aBq {n:Nat} {cs:List AVal} (h:TyN Tryz.prog N (n+4) 24 cs):∃ l:List Hos,cs=[.slice 6 (hav l) .no]/\l.length<=N:=by
 unfold TyN at h
 rw [Tryz.underlying24] at h
 obtain ⟨xs,rfl,b,a⟩:=h
 have c:Tryz.prog.cellsOf 82=6:=by kernel_rfl
 obtain ⟨l,rfl,hl⟩:=RO (av:=Hos.av) (Q:=fun x=>True) (P:=fun x=>x∈xs) (fun x hm=>by
  obtain ⟨cs,rfl⟩:=(a x hm).2.1 (by kernel_rfl)
  obtain ⟨p,hp⟩:=aE1 (n:=n) (a _ hm).1
  exact ⟨p,by unfold Hos.av;rw [<-hp];rfl,trivial⟩) xs fun x hm=>hm
 exact ⟨l,by rw [c],by simpa using b⟩
theorem aGX {n:Nat} {cs:List AVal} (h:TyN Tryz.prog 1048576 (n+5) 26 cs):∃ c:Con,cs=c.cs/\c.sm:=by
 unfold TyN at h
 rw [Tryz.underlying26] at h
 obtain ⟨j,r,rfl,b,k,r,rfl,h1,i,r,rfl,f,g,r,rfl,h3,rfl⟩:=h
 obtain ⟨ns,rfl,e⟩:=aBp (n:=n) b
 obtain ⟨hs,rfl,l1⟩:=aBq (n:=n) h1
 obtain ⟨d,rfl⟩:=iL f
 obtain ⟨a,rfl⟩:=iL h3
 exact ⟨⟨ns,hs,d,a⟩,rfl,⟨e,l1⟩⟩
end
structure StaSm (s:Sta):Prop where
 c:s.c.sm
 pend:s.pend.length<=1048576
 run:Sm s.run
 hist:s.hist.length<=1048576
 fix:∀ x∈s.hist,x<18446744073709551616
structure CmSm (x:Cmd):Prop where
 c:x.c.sm
 n: -9223372036854775808<=x.n/\x.n<=9223372036854775807
theorem aGY {n:Nat} {cs:List AVal} (h:TyN Tryz.prog 1048576 (n+6) 38 cs):∃ x:Cmd,cs=x.cs/\CmSm x:=by
 unfold TyN at h
 rw [Tryz.underlying38] at h
 obtain ⟨i,r,rfl,b,j,r,rfl,h1,f,r,rfl,d,e,r,rfl,h3,rfl⟩:=h
 obtain ⟨k,rfl⟩:=iL b
 obtain ⟨c,rfl,a⟩:=aGX (n:=n) h1
 obtain ⟨g,rfl⟩:=aE2 (n:=n+2) d
 obtain ⟨m,rfl,hm⟩:=aE0 h3
 exact ⟨⟨k,c,g,m⟩,rfl,a,hm⟩
section
variable {H:Type} {enc:TypeId×Value->H} {W:World} {r:Reach} {base b0:Nat} {spare:Nat->Bool} {held:Bool} {v:Value} {d:DataW H} {ps:List MemPlace}
theorem TG (g:Ki Tryz.prog W r b0 22 v) (h:DataW.Trod enc Tryz.prog W base spare held 22 v d ps) (c:Rows.uptoBulk d<=1048576):∃ l:List Cmd,Rep (Mw W) [] v (.slice 15 (cmv l) .no)/\l.length<=1048576/\∀ x∈l,CmSm x:=by
 obtain ⟨xs,b,e,a⟩:=OL (n:=6) (aH1 H 1048576) Tryz.underlying22 (by kernel_rfl) g h c
 have i:Tryz.prog.cellsOf 38=15:=by kernel_rfl
 obtain ⟨l,rfl,hl⟩:=RO (av:=Cmd.av) (Q:=CmSm) (P:=fun x=>x∈xs) (fun x hm=>by
  obtain ⟨cs,rfl⟩:=(a x hm).2.1 (by kernel_rfl)
  obtain ⟨p,hp,f⟩:=aGY (n:=0) (a _ hm).1
  exact ⟨p,by unfold Cmd.av;rw [<-hp];rfl,f⟩) xs fun x hm=>hm
 rw [i] at b
 exact ⟨l,b,by simpa using e,hl⟩
end
end Go.Proofs.YticlgfdibfobdaaGreat
