/-
  Rounds and commands, as walks; the laws.
-/
import Derived.Test.YticlgfdibfobdaaGreatRows
import Derived.Test.YticlgfdibfobdaaGreatDA
set_option linter.all false
set_option maxHeartbeats 1000000
open And renaming intro->Aa
open Bool renaming and_eq_true->Ag,and_false->Bt,false_and->Cj,not_eq_true'->Eb,or_eq_false_iff->Ie,true_and->Bo
open Decidable renaming byContradiction->Ld,not_not->Ep
open Exists renaming intro->Ah
open Go.Value renaming okWide->Gd
open Iff renaming rfl->Mv
open Int renaming le_refl->Ds,le_trans->Ft,mul_nonneg->Je,toNat_natCast->Cz,toNat_of_nonneg->Iq
open List renaming Nodup->Ii,all_cons->Ei,all_eq_true->Cu,any_eq_true->Ij,append_assoc->Aj,append_nil->Bc,cons_append->Cm,drop->Fp,drop_eq_getElem_cons->Ac,drop_eq_nil_of_le->Ae,drop_zero->Bn,eraseIdx_append_of_length_le->Jd,eraseIdx_eq_take_drop_succ->Ey,filter_cons->Gv,filter_cons_of_neg->Gi,filter_cons_of_pos->Gh,filter_eq_self->Hh,filter_sublist->Ir,foldl_append->Jk,foldl_cons->Al,getElem?_eq_getElem->Ab,getElem?_eq_some_iff->Ad,getElem_mem->Bb,length->Mh,length_append->Ay,length_cons->Bq,length_eq_zero_iff->Bl,length_eraseIdx->Ke,length_filter_le->Dw,length_map->Ck,length_pos_iff->Gp,length_replicate->Fy,length_singleton->Md,length_take->Fz,map_append->Cc,map_cons->Bp,map_drop->Hu,map_map->Gq,map_take->Ht,mem_append->Az,mem_append_left->Dr,mem_append_right->De,mem_cons->Au,mem_cons_of_mem->Bd,mem_cons_self->Ax,mem_filter->Fk,mem_map->Ce,mem_map_of_mem->Cw,mem_reverse->Hj,mem_singleton->Du,mem_singleton_self->Jc,mem_take_iff_getElem->Im,nodup_append->Bu,nodup_cons->Cg,nodup_nil->Gg,pairwise_cons->Br,pairwise_iff_getElem->Dn,pairwise_map->Dc,pairwise_singleton->Jb,perm_append_comm->Dl,perm_middle->Ej,replicate->Ai,take->Et,take_append_drop->Bk
open List.Pairwise renaming imp->Jh,nil->Jg
open List.Perm renaming append_left->Dk,append_right->Dq,refl->Fb,trans->Ma
open List.cons renaming inj->Dt
open Nat renaming le_add_right->Ik,le_refl->Ba,le_trans->Co,mul_le_mul->Fa,sub_self->Lv,zero_add->Bw,zero_le->Cn
open Option renaming isSome_iff_exists->Da
namespace Go.Proofs.YticlgfdibfobdaaGreat
open Go Go.AW Go.Proofs
set_option maxRecDepth 10000
theorem zqya0 {P:Prop} (h:P:=by
 refine cT (E:=(Er [] [120,132,133])) (fn:=Tryz.f72) (g:=.full 2 _ _) fun _=>?_
 exact zW):P:=h
theorem zqya1 {P:Prop} (h:P:=by
 exact c_ Tryz.f10 fun _=>zW):P:=h
theorem zqya2 {P:Prop} (h:P:=by
 obtain ⟨k,c,g,n⟩:=x
 dsimp only at a
 subst a
 exact c_ Tryz.f38 fun _=>zW):P:=h
theorem zqya3 {P:Prop} (h:P:=by
 refine cT (E:=E) (fn:=Tryz.f40) (g:=.full 1 _ _) fun _=>?_
 exact zW):P:=h
theorem zqya4 {P:Prop} (h:P:=by
 exact c_ Tryz.f8 fun _=>zW):P:=h
theorem zqya5 {P:Prop} (h:P:=by
 have b:rav (s.run++[⟨p.g,p.seq,p.at',s.now,x.1,x.2⟩])=rav s.run++[Rn.av ⟨p.g,p.seq,p.at',s.now,x.1,x.2⟩]:=by simp
 unfold rdS rdO rdC ruV at a
 dsimp only at a
 rw [b] at a
 generalize cS s.pend p.g.id=pq at *
 clear b e
 refine cT (E:=(Er [] [60,64,86,87,88])) (fn:=Tryz.f191) (g:=.full 3 _ _) fun _=>?_
 exact zW):P:=h
theorem zqya6 {P:Prop} (h:P:=by
 unfold sdF at h3
 exact c_ Tryz.f35 fun _=>zW):P:=h
theorem zqya7 {P:Prop} (h:P:=by
 refine cT (E:=(Eo [7] [])) (fn:=Tryz.f22) (g:=.pure _) fun _=>?_
 exact zW):P:=h
theorem zqya8 {P:Prop} (h:P:=by
 exact c_ Tryz.f121 fun _=>zW):P:=h
theorem zqya9 {P:Prop} (h:P:=by
 exact c_ Tryz.f21 fun _=>zW):P:=h
theorem zqya10 {P:Prop} (h:P:=by
 refine cT (E:=(Er [] [39,40,59,60,61,62,63,64])) (fn:=Tryz.f120) (g:=.full 3 _ _) fun _=>?_
 exact zW):P:=h
theorem zqya11 {P:Prop} (h:P:=by
 exact c_ Tryz.f14 fun _=>zW):P:=h
theorem zqya12 {P:Prop} (h:P:=by
 have a:0=r:=a
 subst a
 generalize jU s.c.ns p.g=q at *
 clear next b
 refine gV ?_
 exact zW):P:=h
theorem zqya13 {P:Prop} (h:P:=by
 rw [Ae o_,Ae o_] at c
 have c:true=r:=c
 subst c
 refine gV ?_
 exact zW):P:=h
theorem zqya14 {P:Prop} (h:P:=by
 exact c_ Tryz.f94 fun _=>zW):P:=h
theorem zqya15 {P:Prop} (h:P:=by
 exact c_ Tryz.f33 fun _=>zW):P:=h
theorem zqya16 {P:Prop} (h:P:=by
 refine cT (E:=(Eo [6] [])) (fn:=Tryz.f43) (g:=.full 1 _ _) fun _=>?_
 exact zW):P:=h
theorem zqya17 {P:Prop} (h:P:=by
 have h1:=C8.rcheck_any x 0 b
 obtain ⟨k,c,g,n⟩:=x
 dsimp only at a
 subst a
 exact zqya4):P:=h
theorem zqya18 {P:Prop} (h:P:=by
 subst a
 exact c_ Tryz.f74 fun _=>zW):P:=h
theorem zqya19 {P:Prop} (h:P:=by
 rw [C8.eqL_len (by intro e;rw [d,c,e] at h;simp at h)]
 refine gW hE ?_;conv=>whnf):P:=h
theorem zqya20 {P:Prop} (h:P:=by
 have next:=next (by rw [<-c,h1];exact decide_eq_decide.2 ⟨fun e=>by rw [e],fun e=>(Dt e).2⟩)
 clear g c
 refine gV ?_
 exact zW):P:=h
theorem zqya21 {P:Prop} (h:P:=by
 exact c_ Tryz.f93 fun _=>zW):P:=h
theorem zqya22 {P:Prop} (h:P:=by
 rw [Ae o_] at a
 have a: -1=r:=a
 subst a
 refine gV ?_
 exact zW):P:=h
theorem zqya23 {P:Prop} (h:P:=by
 have c:false=r:=by rw [<-c,decide_eq_false fun e=>h1 (Dt e).1]
 subst c
 clear g next
 refine gV ?_
 exact zW):P:=h
theorem zqya24 {P:Prop} (h:P:=by
 refine cT (E:=(Er [] [60,64,86,87,88])) (fn:=Tryz.f191) (g:=.full 3 _ _) fun _=>?_
 exact zW):P:=h
theorem zqya25 {P:Prop} (h:P:=by
 exact c_ Tryz.f4 fun _=>zW):P:=h
theorem zqya26 {P:Prop} (h:P:=by
 refine cT (E:=(Eo [4] [36,37,6])) (fn:=Tryz.f5) (g:=.pure _) fun _=>?_
 exact zW):P:=h
theorem zqya27 {P:Prop} (h:P:=by
 intro i a r s b
 rw [Ae o_] at b
 have b:a++[]=R:=b
 rw [Bc] at b
 subst b
 refine gV ?_
 exact zW):P:=h
theorem zqya28 {P:Prop} (h:P:=by
 refine cT (E:=(Er [] [24,38])) (fn:=Tryz.f39) (g:=.full 1 _ _) fun _=>?_
 exact zW):P:=h
theorem zqya29 {P:Prop} (h:P:=by
 rw [Ae o_,Ae o_] at c
 subst c
 refine gV ?_
 exact zW):P:=h
theorem zqya30 {P:Prop} (h:P:=by
 rw [if_neg (by rw [c];decide)] at a
 rw [c] at g
 have next:=d a
 refine gV ?_
 exact zW):P:=h
theorem zqya31 {P:Prop} (h:P:=by
 refine aL ?_;conv=>whnf
 refine ⟨?_,trivial⟩;conv=>whnf
 refine aL ?_;conv=>whnf
 exact zW):P:=h
theorem zqya32 {P:Prop} (h:P:=by
 rw [d] at n
 rw [jR d] at b
 have next:=k (i+1) a o_ o_ b
 refine gV ?_
 exact zW):P:=h
theorem zqya33 {P:Prop} (h:P:=by
 unfold bB
 rw [A]
 unfold wH
 dsimp only
 rw [J]
 rfl):P:=h
theorem zqya34 {P:Prop} (h:P:=by
 refine cT (E:=E) (fn:=Tryz.f41) (g:=.full 2 _ _) fun _=>?_
 exact zW):P:=h
theorem zqya35 {P:Prop} (h:P:=by
 generalize bB r p=r2 at *
 refine gV ?_
 exact zW):P:=h
theorem zqya36 {P:Prop} (h:P:=by
 have d:false=r:=d
 subst d
 exact zqya11):P:=h
theorem zqya37 {P:Prop} (h:P:=by
 exact c_ Tryz.f13 fun _=>zW):P:=h
theorem zqya38 {P:Prop} (h:P:=by
 rw [if_pos c] at a
 rw [c] at g
 subst a
 refine gV ?_
 exact zW):P:=h
theorem JS (l:List Nod) (h:l.length<=1048576):aA Tryz.prog 98 [.slice 11 (nav l) .no] [] (.ret (.slice 11 (nav l) .no)) []:=by
 have a:(nav l).length=l.length:=by simp
 refine c_ Tryz.f98 fun _=>?_
 refine gV ?_
 intro b c
 refine gV ?_
 refine ⟨fun h=>?_,fun h=>?_⟩
 .have h:b=true:=h
  have e:nav l=[]:=c h
  refine gV ?_
  rw [e]
 .have h:b=false:=h
  exact zW
theorem JT (l:List Hos) (h:l.length<=1048576):aA Tryz.prog 99 [.slice 6 (hav l) .no] [] (.ret (.slice 6 (hav l) .no)) []:=by
 have a:(hav l).length=l.length:=by simp
 refine c_ Tryz.f99 fun _=>?_
 refine gV ?_
 intro b c
 refine gV ?_
 refine ⟨fun h=>?_,fun h=>?_⟩
 .have h:b=true:=h
  have e:hav l=[]:=c h
  refine gV ?_
  rw [e]
 .have h:b=false:=h
  exact zW
theorem RV (l:List Pn) (h:l.length<=1048576):aA Tryz.prog 100 [.slice 11 (pnv l) .no] [] (.ret (.slice 11 (pnv l) .no)) []:=by
 have a:(pnv l).length=l.length:=by simp
 refine c_ Tryz.f100 fun _=>?_
 refine gV ?_
 intro b c
 refine gV ?_
 refine ⟨fun h=>?_,fun h=>?_⟩
 .have h:b=true:=h
  have e:pnv l=[]:=c h
  refine gV ?_
  rw [e]
 .have h:b=false:=h
  exact zW
theorem RW (l:List Nat) (h:l.length<=1048576):aA Tryz.prog 101 [.slice 1 (fv l) .no] [] (.ret (.slice 1 (fv l) .no)) []:=by
 have a:(fv l).length=l.length:=by simp
 refine c_ Tryz.f101 fun _=>?_
 refine gV ?_
 intro b c
 refine gV ?_
 refine ⟨fun h=>?_,fun h=>?_⟩
 .have h:b=true:=h
  have e:fv l=[]:=c h
  refine gV ?_
  rw [e]
 .have h:b=false:=h
  exact zW
abbrev wY (l:List Rn):List AObj:=[.row 0 14 127 (rav l)]
theorem ZL (l:List Rn) (hs:Sm l) (ids:List Int) (q:ids.length<=1048576) (R:List Rn):∀ (m i:Nat) (a:List Rn),i+m=l.length->a.length<=i->a++aB (l.drop i) ids=R->
  To (Er [5] []) fWo (.full 0 (.ret (.row 0 0)) (wY R)) (.head (stk fWo 0) [(1,.slice 1 (iv ids) .no),(5,.row 0 0),(8,.slice 14 (rav l) .no),(9,.int .i64 ((rav l).length:Nat)),(10,ii i)] (wY a)):=by
 have h:(rav l).length=l.length:=by simp
 have hl:=hs.1
 intro m
 induction m with
 | zero=>
  exact zqya27
 | succ m k=>
  intro i a r s b
  have c:i<l.length:=o_
  have f:=hs.at c
  rw [Ac c] at b
  generalize p:l[i]=x at b f
  have get:(rav l)[i]? =some x.av:=(bN c).trans (by rw [p])
  have o:(rav a).length=a.length:=by simp
  have n:=D0 ids q x.g.id
  cases d:inB x.g.id ids with
  | true=>
   exact zqya32
  | false=>
   rw [d] at n
   rw [jQ d] at b
   have next:=k (i+1) (a++[x]) o_ q_ (by rw [Aj];exact b)
   have e:rav (a++[x])=rav a++[x.av]:=by simp
   unfold wY at next
   rw [e] at next
   refine gV ?_
   have j:=AB x f
   exact zW
theorem aHO (l:List Rn) (hs:Sm l) (ids:List Int) (a:ids.length<=1048576):aA Tryz.prog 102 [.slice 14 (rav l) .no,.slice 1 (iv ids) .no] [] (.ret (.row 0 0)) (wY (aB l ids)):=by
 have h1:=ZL l hs ids a _ l.length 0 [] o_ s_ rfl
 refine cT (E:=(Er [5] [])) (fn:=Tryz.f102) (g:=.full 0 _ _) fun _=>?_
 exact zW
theorem aD5 (l:List Rn) (hs:Sm l):aA Tryz.prog 102 [.slice 14 (rav l) .no,.nilslice] [] (.ret (.row 0 0)) (wY l):=by
 have h:=aHO l hs [] s_
 rw [dK] at h
 exact aA.nil2 h
abbrev LQ:List AObj:=[.tail 0 14 127]
theorem ZN (l:List Rn) (hs:Sm l) (ids:List Int) (q:ids.length<=1048576) (R:List Rn):∀ (m i:Nat) (a:List Rn),i+m=l.length->a.length<=i->a++aB (l.drop i) ids=R->
  To (Eo [5] []) fWo (.full 0 (.ret (.slice 14 (rav R) (.own 0 0))) LQ) (.head (stk fWo 0) [(1,.slice 1 (iv ids) .no),(5,.slice 14 (rav a) (.own 0 0)),(8,.slice 14 (rav l) .no),(9,.int .i64 ((rav l).length:Nat)),(10,ii i)] LQ):=by
 have j:(rav l).length=l.length:=by simp
 have hl:=hs.1
 intro m
 induction m with
 | zero=>
  exact zqya27
 | succ m k=>
  intro i a r s b
  have c:i<l.length:=o_
  have h:=hs.at c
  rw [Ac c] at b
  generalize p:l[i]=x at b h
  have get:(rav l)[i]? =some x.av:=(bN c).trans (by rw [p])
  have o:(rav a).length=a.length:=by simp
  have n:=D0 ids q x.g.id
  cases d:inB x.g.id ids with
  | true=>
   exact zqya32
  | false=>
   rw [d] at n
   rw [jQ d] at b
   have next:=k (i+1) (a++[x]) o_ q_ (by rw [Aj];exact b)
   have e:rav (a++[x])=rav a++[x.av]:=by simp
   rw [e] at next
   refine gV ?_
   have f:=AB x h
   exact zW
theorem ZM (l:List Rn) (hs:Sm l) (ids:List Int) (a:ids.length<=1048576):aA Tryz.prog 102 [.slice 14 (rav l) .no,.slice 1 (iv ids) .no] [] (.ret (.slice 14 (rav (aB l ids)) (.own 0 0))) LQ:=by
 have h1:=ZN l hs ids a _ l.length 0 [] o_ s_ rfl
 refine cT (E:=(Eo [5] [])) (fn:=Tryz.f102) (g:=.full 0 _ _) fun _=>?_
 exact zW
theorem aD6 (l:List Rn) (hs:Sm l):aA Tryz.prog 102 [.slice 14 (rav l) .no,.nilslice] [] (.ret (.slice 14 (rav l) (.own 0 0))) LQ:=by
 have h:=ZM l hs [] s_
 rw [dK] at h
 exact aA.nil2 h
structure StaSm' (s:Sta):Prop where
 ns:s.c.ns.length<=1048576
 hs:s.c.hs.length<=1048576
 pend:s.pend.length<=1048576
 run:Sm s.run
 hist:s.hist.length<=1048576
def Sta.avR (s:Sta) (k g:Nat):AVal:=.agg [.slice 11 (nav s.c.ns) .no,.slice 6 (hav s.c.hs) .no,ii s.c.half,ii s.c.age,ii s.now,ii s.nxt,.slice 11 (pnv s.pend) .no,.row k g,.slice 1 (fv s.hist) .no]
def Sta.avO (s:Sta) (k g:Nat):AVal:=.agg [.slice 11 (nav s.c.ns) .no,.slice 6 (hav s.c.hs) .no,ii s.c.half,ii s.c.age,ii s.now,ii s.nxt,.slice 11 (pnv s.pend) .no,.slice 14 (rav s.run) (.own k g),.slice 1 (fv s.hist) .no]
theorem aGK (s:Sta) (h:StaSm' s):aA Tryz.prog 118 [s.av] [] (.ret (s.avO 0 0)) LQ:=by
 have h1:=JS s.c.ns h.ns
 have b:=JT s.c.hs h.hs
 have h3:=RV s.pend h.pend
 have d:=RW s.hist h.hist
 have a:=aD6 s.run h.run
 refine cT (E:=E) (fn:=Tryz.f118) (g:=.full 0 _ _) fun _=>?_
 exact zW
theorem AE (s:Sta) (h:StaSm' s):aA Tryz.prog 36 [s.av] [] (.ret (s.avR 0 0)) (wY s.run):=by
 have h1:=JS s.c.ns h.ns
 have b:=JT s.c.hs h.hs
 have h3:=RV s.pend h.pend
 have d:=RW s.hist h.hist
 have a:=aD5 s.run h.run
 refine cT (E:=E) (fn:=Tryz.f36) (g:=.full 0 _ _) fun _=>?_
 exact zW
abbrev rdC (r:Rd) (run:AVal) (ge:Nat):List AVal:=[.slice 11 (nav r.s.c.ns) .no,.slice 6 (hav r.s.c.hs) .no,ii r.s.c.half,ii r.s.c.age,ii r.s.now,ii r.s.nxt,.slice 11 (pnv r.s.pend) .no,run,.slice 1 (fv r.s.hist) .no,.slice 3 (evv r.ev) (.own 1 ge),.bool r.head,ii r.start]
abbrev rdO (r:Rd) (run:AVal) (ge:Nat):AObj:=.cells 187 (rdC r run ge)
abbrev evT (g:Nat):AObj:=.tail g 3 84
abbrev ruT (g:Nat):AObj:=.tail g 14 127
abbrev ruV (l:List Rn) (k g:Nat):AVal:=.slice 14 (rav l) (.own k g)
abbrev rdS (r:Rd) (ge gr:Nat):List AObj:=[rdO r (ruV r.s.run 2 gr) ge,evT ge,ruT gr]
def iS (r:Rd) (e:Ev):Rd:=⟨r.s,r.ev++[e],r.head,r.start⟩
theorem IP (r:Rd) (k id n:Int) (hl:r.ev.length<=1048576):aA Tryz.prog 195 [.ref 0 0,ii k,ii id,ii n] (rdS r 0 0) (.ret (.tup [])) (rdS (iS r ⟨k,id,n⟩) 1 0):=by
 have a:(evv r.ev).length=r.ev.length:=by simp
 have e:evv (r.ev++[⟨k,id,n⟩])=evv r.ev++[Ev.av ⟨k,id,n⟩]:=by simp
 unfold iS
 show aA _ _ _ _ _ [.cells _ [_,_,_,_,_,_,_,_,_,.slice 3 (evv (r.ev++[⟨k,id,n⟩])) (.own 1 1),_,_],_,_]
 rw [e]
 refine cT (E:=E) (fn:=Tryz.f195) (g:=.full 3 _ _) fun _=>?_
 exact zW
theorem MM (r:Rd) (l:List Rn) (k id n:Int) (hl:r.ev.length<=1048576):aA Tryz.prog 195 [.ref 0 0,ii k,ii id,ii n] [rdO r (.slice 14 (rav l) .no) 0,evT 0] (.ret (.tup [])) [rdO (iS r ⟨k,id,n⟩) (.slice 14 (rav l) .no) 1,evT 1]:=by
 have a:(evv r.ev).length=r.ev.length:=by simp
 have e:evv (r.ev++[⟨k,id,n⟩])=evv r.ev++[Ev.av ⟨k,id,n⟩]:=by simp
 unfold iS
 show aA _ _ _ _ _ [.cells _ [_,_,_,_,_,_,_,_,_,.slice 3 (evv (r.ev++[⟨k,id,n⟩])) (.own 1 1),_,_],_]
 rw [e]
 refine cT (E:=E) (fn:=Tryz.f195) (g:=.full 2 _ _) fun _=>?_
 exact zW
theorem C9 {n a:Nat} (h:n<=1048576) (b:a<=1000):zU (n+1) a:=Aa (by simp only [maxLen];omega) (Co (Fa (show n+1<=1048577 by omega) b) d_)
theorem aMd (r:Rd) (p:Pn) (a:aA Tryz.prog 156 [r.s.c.av,.slice 14 (rav r.s.run) .no,p.g.av] [] (.ret (fdA none)) []):
  aA Tryz.prog 191 [.ref 0 0,p.av] (rdS r 0 0) (.ret (.bool false)) (rdS r 0 0):=by
 obtain ⟨s,ev,head,start⟩:=r
 exact zqya24
theorem aMf (s:Sta) (ev:List Ev) (start:Int) (p:Pn) (x:Int×List Int) (a:aA Tryz.prog 156 [s.c.av,.slice 14 (rav s.run) .no,p.g.av] [] (.ret (fdA (some x))) [])
  (hm:aA Tryz.prog 247 [ii s.now,p.g.av,ii start] [] (.ret (.bool false)) []):
  aA Tryz.prog 191 [.ref 0 0,p.av] (rdS ⟨s,ev,true,start⟩ 0 0) (.ret (.bool false)) (rdS ⟨s,ev,true,start⟩ 0 0):=by
 exact zqya24
set_option maxHeartbeats 1000000 in
theorem aMc (s:Sta) (ev:List Ev) (start:Int) (p:Pn) (x:Int×List Int) (j:aA Tryz.prog 156 [s.c.av,.slice 14 (rav s.run) .no,p.g.av] [] (.ret (fdA (some x))) []) (h:ev.length<=1000000) (hp:s.pend.length<=1000000) (d:(rav s.run).length<=1048576)
  (hm:aA Tryz.prog 247 [ii s.now,p.g.av,ii start] [] (.ret (.bool true)) []):
  aA Tryz.prog 191 [.ref 0 0,p.av] (rdS ⟨s,ev,true,start⟩ 0 0) (.ret (.bool true)) (rdS (uC ⟨s,ev,true,start⟩ p x.1 x.2) 1 1):=by
 have e:uC ⟨s,ev,true,start⟩ p x.1 x.2=iS ⟨{s with pend:=cS s.pend p.g.id,run:=s.run++[⟨p.g,p.seq,p.at',s.now,x.1,x.2⟩]},ev,true,start⟩ ⟨1,p.g.id,x.1⟩:=rfl
 have a:=IP ⟨{s with pend:=cS s.pend p.g.id,run:=s.run++[⟨p.g,p.seq,p.at',s.now,x.1,x.2⟩]},ev,true,start⟩ 1 p.g.id x.1 (by show ev.length<=_;omega)
 have i:=qJ s.pend p.g.id hp
 rw [e]
 generalize iS ⟨{s with pend:=cS s.pend p.g.id,run:=s.run++[⟨p.g,p.seq,p.at',s.now,x.1,x.2⟩]},ev,true,start⟩ ⟨1,p.g.id,x.1⟩=r2 at *
 exact zqya5
set_option maxHeartbeats 1000000 in
theorem aMe (s:Sta) (ev:List Ev) (start:Int) (p:Pn) (x:Int×List Int) (h:aA Tryz.prog 156 [s.c.av,.slice 14 (rav s.run) .no,p.g.av] [] (.ret (fdA (some x))) []) (i:ev.length<=1000000) (hp:s.pend.length<=1000000) (d:(rav s.run).length<=1048576):
  aA Tryz.prog 191 [.ref 0 0,p.av] (rdS ⟨s,ev,false,start⟩ 0 0) (.ret (.bool true)) (rdS (uC ⟨s,ev,false,start⟩ p x.1 x.2) 1 1):=by
 have hm:=h
 have e:uC ⟨s,ev,false,start⟩ p x.1 x.2=iS ⟨{s with pend:=cS s.pend p.g.id,run:=s.run++[⟨p.g,p.seq,p.at',s.now,x.1,x.2⟩]},ev,false,start⟩ ⟨1,p.g.id,x.1⟩:=rfl
 have a:=IP ⟨{s with pend:=cS s.pend p.g.id,run:=s.run++[⟨p.g,p.seq,p.at',s.now,x.1,x.2⟩]},ev,false,start⟩ 1 p.g.id x.1 (by show ev.length<=_;omega)
 have j:=qJ s.pend p.g.id hp
 rw [e]
 generalize iS ⟨{s with pend:=cS s.pend p.g.id,run:=s.run++[⟨p.g,p.seq,p.at',s.now,x.1,x.2⟩]},ev,false,start⟩ ⟨1,p.g.id,x.1⟩=r2 at *
 exact zqya5
theorem OP (r:Rd) (p:Pn) (k:r.s.c.sm) (hs:Sm r.s.run) (hp:r.s.pend.length<=1000000) (i:r.ev.length<=1000000) (j:0<=p.g.pods/\p.g.pods<=16):
  (admR r p=(r,false)/\aA Tryz.prog 191 [.ref 0 0,p.av] (rdS r 0 0) (.ret (.bool false)) (rdS r 0 0))\/
  ((admR r p).2=true/\aA Tryz.prog 191 [.ref 0 0,p.av] (rdS r 0 0) (.ret (.bool true)) (rdS (admR r p).1 1 1)):=by
 have b:(rav r.s.run).length<=1048576:=by simpa using hs.1
 have a:=vU r.s.c k r.s.run hs p.g j
 have hm:=aGW r.s.now p.g r.start
 unfold admR
 cases h:bU r.s.c r.s.run p.g with
 | none=>
  rw [h] at a
  exact .inl ⟨rfl,aMd r p a⟩
 | some x=>
  rw [h] at a
  obtain ⟨s,ev,head,start⟩:=r
  cases head with
  | false=>exact .inr ⟨rfl,aMe s ev start p x a i hp b⟩
  | true=>
   cases d:bmB s.now p.g start with
   | false=>
    have e:wH ⟨s,ev,true,start⟩ p (some x)=(⟨s,ev,true,start⟩,false):=by
     unfold wH
     exact if_pos (by rw [d];rfl)
    rw [e]
    dsimp only at hm
    rw [d] at hm
    exact .inl ⟨rfl,aMf s ev start p x a hm⟩
   | true=>
    have e:wH ⟨s,ev,true,start⟩ p (some x)=(uC ⟨s,ev,true,start⟩ p x.1 x.2,true):=by
     unfold wH
     exact if_neg (by rw [d];simp)
    rw [e]
    dsimp only at hm
    rw [d] at hm
    exact .inr ⟨rfl,aMc s ev start p x a i hp b hm⟩
def aV (id:Int) (x:Rn):Bool:=x.g.id==id
abbrev idF (n:Nat) (id:Int):AVal:=.func (.func n) [] [.ptr [ii id]]
theorem QP (n:Nat) (id:Int) (e:∀ x:Rn,aA Tryz.prog n [x.av,.ptr [ii id]] [] (.ret (.bool (aV id x))) []) (l:List Rn) (hl:l.length<=1048576) (r:Int):∀ (m i:Nat),i+m=l.length->aH (aV id) (l.drop i) i=r->
  To E GW (.pure (.ret (ii r))) (.head (stk GW 0) [(0,.slice 14 (rav l) .no),(1,idF n id),(7,.int .i64 ((rav l).length:Nat)),(8,ii i)] []):=by
 have f:(rav l).length=l.length:=by simp
 intro m
 induction m with
 | zero=>
  intro i h a
  exact zqya22
 | succ m d=>
  intro i h a
  have b:i<l.length:=o_
  rw [Ac b] at a
  have get:(rav l)[i]? =some l[i].av:=bN b
  generalize l[i]=x at a get
  unfold aH at a
  have g:=e x
  have d:=d (i+1) o_
  cases c:aV id x with
  | true=>
   exact zqya38
  | false=>
   exact zqya30
theorem C2 (n:Nat) (id:Int) (a:∀ x:Rn,aA Tryz.prog n [x.av,.ptr [ii id]] [] (.ret (.bool (aV id x))) []) (l:List Rn) (hl:l.length<=1048576):aA Tryz.prog 173 [.slice 14 (rav l) .no,idF n id] [] (.ret (ii (aH (aV id) l 0))) []:=by
 refine c_ Tryz.f173 fun _=>?_
 refine gV ?_
 exact To.cut [0,1,7,8] 0 rfl rfl rfl rfl (QP n id a l hl _ l.length 0 o_ rfl)
theorem VC (id:Int) (x:Rn):aA Tryz.prog 255 [x.av,.ptr [ii id]] [] (.ret (.bool (aV id x))) []:=by
 unfold aV
 exact c_ Tryz.f255 fun _=>zW
theorem FI (id:Int) (x:Rn):aA Tryz.prog 174 [x.av,.ptr [ii id]] [] (.ret (.bool (aV id x))) []:=by
 unfold aV
 exact c_ Tryz.f174 fun _=>zW
theorem lQ (p:Rn->Bool):∀ (l:List Rn) (i:Nat),aH p l i= -1\/((i:Int)<=aH p l i/\aH p l i<(i:Int)+l.length)
 | [],i=>.inl rfl
 | x::l,i=>by
  unfold aH
  by_cases h:p x=true
  .rw [if_pos h]
   right
   simp
   omega
  .rw [if_neg h]
   rcases lQ p l (i+1) with a | a
   .exact .inl a
   .right
    simp
    omega
noncomputable abbrev fEv:Func:=Tryz.f193
abbrev evF (ids:List Int) (i:Nat):List (Nat×AVal):=[(0,.ref 0 0),(1,.slice 1 (iv ids) .no),(8,.slice 1 (iv ids) .no),(9,.int .i64 ((iv ids).length:Nat)),(10,ii i)]
abbrev evD (Q:Rd) (run:List Rn) (ids:List Int):Rd:=⟨{Q.s with run:=aB run ids},Q.ev,Q.head,Q.start⟩
abbrev evG (Q:Rd) (run:List Rn) (ids:List Int) (g:Nat):Goal:=.full 2 (.ret (.tup [])) [rdO (evD Q run ids) (ruV (aB run ids) 2 0) g,evT g,ruT 0]
abbrev evB (q:Rd) (run:List Rn) (g:Nat):List AObj:=[rdO q (.slice 14 (rav run) .no) g,evT g]
theorem qK (l:List Pn) (p:Pn):(gT l p).length=l.length+1:=by
 unfold gT
 rw [Ay,Ay,Md]
 have:=congrArg Mh (Bk (Q2.putAt p.q (l.map Pn.q)) l)
 rw [Ay] at this
 omega
set_option maxHeartbeats 1000000 in
theorem aGh (run:List Rn) (hs:Sm run) (ids:List Int) (t:ids.length<=1048576) (j:∀ id∈ids,0<=aH (aV id) run 0) (Q:Rd):∀ (m i:Nat) (q:Rd),i+m=ids.length->(ids.drop i).foldl (cV run) q=Q->q.s.pend.length+m<=1000000->q.ev.length+m<=1000000->
  To E fEv (evG Q run ids 1) (.head (stk fEv 0) (evF ids i) (evB q run 1)):=by
 intro m
 induction m with
 | zero=>
  intro i q z b hp p
  rw [Ae o_] at b
  have b:q=Q:=b
  subst b
  have C:=ZM run hs ids t
  have n:(iv ids).length=ids.length:=by simp
  have w:evG q run ids 1= .full 2 (.ret (.tup [])) [rdO q (ruV (aB run ids) 2 0) 1,evT 1,ruT 0]:=rfl
  rw [w]
  generalize aB run ids=rn at *
  refine gV ?_
  exact zW
 | succ m A=>
  intro i q z b hp p
  have c:i<ids.length:=o_
  rw [Ac c,Al] at b
  have o:=j _ (Bb c)
  have get:(iv ids)[i]? =some (ii ids[i]):=by simp [c]
  generalize ids[i]=id at b o get
  have h1:=C2 _ id (VC id) run hs.1
  obtain ⟨at',d⟩:∃ a:Nat,aH (aV id) run 0=(a:Int):=⟨(aH (aV id) run 0).toNat,by omega⟩
  have k:at'<run.length:=by
   rcases lQ (aV id) run 0 with h | h
   .omega
   .rw [d] at h;omega
  have B:=jK k
  have f:cV run q id=iS ⟨{q.s with pend:=gT q.s.pend (aG run at').pn},q.ev,q.head,q.start⟩ ⟨2,id,0⟩:=by
   have e:(aH (fun x=>x.g.id==id) run 0).toNat=at':=by
    have y:aH (aV id) run 0=at':=d
    have v:aH (fun x=>x.g.id==id) run 0=aH (aV id) run 0:=rfl
    rw [v,y]
    rfl
   unfold cV
   rw [e]
   rfl
  rw [f] at b
  rw [d] at h1
  have u:=II q.s.pend (aG run at').pn o_
  have h3:=MM ⟨{q.s with pend:=gT q.s.pend (aG run at').pn},q.ev,q.head,q.start⟩ run 2 id 0 (by show q.ev.length<=_;omega)
  have next:=A (i+1) (iS ⟨{q.s with pend:=gT q.s.pend (aG run at').pn},q.ev,q.head,q.start⟩ ⟨2,id,0⟩) o_ b (by show (gT _ _).length+m<=_;rw [qK];omega) (by show (q.ev++[_]).length+m<=_;simp;omega)
  generalize iS ⟨{q.s with pend:=gT q.s.pend (aG run at').pn},q.ev,q.head,q.start⟩ ⟨2,id,0⟩=q2 at *
  generalize gT q.s.pend (aG run at').pn=pq at *
  have l:(aG run at').pn=⟨(aG run at').g,(aG run at').seq,(aG run at').at'⟩:=rfl
  rw [l] at u
  generalize aG run at'=x at *
  have n:(iv ids).length=ids.length:=by simp
  have r:(rav run).length=run.length:=by simp
  clear f b j
  refine gV ?_
  exact zW
set_option maxHeartbeats 1000000 in
theorem aCN (r:Rd) (run:List Rn) (b:r.s.run=run) (hs:Sm run) (ids:List Int) (G:ids.length<=1048576) (v:ids≠[]) (k:∀ id∈ids,0<=aH (aV id) run 0) (hp:r.s.pend.length+ids.length<=1000000) (C:r.ev.length+ids.length<=1000000):
  aA Tryz.prog 193 [.ref 0 0,.slice 1 (iv ids) .no] (evB r run 0) (.ret (.tup [])) [rdO (fO r ids) (ruV (fO r ids).s.run 2 0) 1,evT 1,ruT 0]:=by
 have z:fO r ids=evD (ids.foldl (cV run) r) run ids:=by rw [<-b];rfl
 rw [z]
 obtain ⟨Q,j⟩:∃ Q,(ids.drop 0).foldl (cV run) r=Q:=⟨_,rfl⟩
 have t:ids.foldl (cV run) r=Q:=j
 rw [t]
 have ev:=aGh run hs ids G k Q
 have p:0<ids.length:=Gp.2 v
 obtain ⟨m,hm⟩:∃ m,ids.length=m+1:=⟨ids.length-1,by omega⟩
 have D:(0:Nat)=0:=rfl
 have key:To E fEv (evG Q run ids 1) (.head (stk fEv 0) (evF ids 0) (evB r run 0)):=by
  have hp:r.s.pend.length+(m+1)<=1000000:=o_
  have C:r.ev.length+(m+1)<=1000000:=o_
  have K:0+(m+1)=ids.length:=o_
  clear t z b
  obtain ⟨i,n⟩:∃ i:Nat,i=0:=⟨_,rfl⟩
  have c:∀ q,q=r->To E fEv (evG Q run ids 1) (.head (stk fEv 0) (evF ids i) (evB q run 0)):=by
   intro q B
   subst B
   rw [<-n] at j K
   have L:=fun q=>ev m (i+1) q o_
   clear D ev n p
   have d:i<ids.length:=o_
   rw [Ac d,Al] at j
   have y:=k _ (Bb d)
   have get:(iv ids)[i]? =some (ii ids[i]):=by simp [d]
   generalize ids[i]=id at j y get
   have h1:=C2 _ id (VC id) run hs.1
   obtain ⟨at',l⟩:∃ a:Nat,aH (aV id) run 0=(a:Int):=⟨(aH (aV id) run 0).toNat,by omega⟩
   have u:at'<run.length:=by
    rcases lQ (aV id) run 0 with h | h
    .omega
    .rw [l] at h;omega
   have N:=jK u
   have o:cV run q id=iS ⟨{q.s with pend:=gT q.s.pend (aG run at').pn},q.ev,q.head,q.start⟩ ⟨2,id,0⟩:=by
    have e:(aH (fun x=>x.g.id==id) run 0).toNat=at':=by
     have J:aH (aV id) run 0=at':=l
     have I:aH (fun x=>x.g.id==id) run 0=aH (aV id) run 0:=rfl
     rw [I,J]
     rfl
    unfold cV
    rw [e]
    rfl
   rw [o] at j
   rw [l] at h1
   have H:=II q.s.pend (aG run at').pn o_
   have h3:=MM ⟨{q.s with pend:=gT q.s.pend (aG run at').pn},q.ev,q.head,q.start⟩ run 2 id 0 (by show q.ev.length<=_;omega)
   have next:=L (iS ⟨{q.s with pend:=gT q.s.pend (aG run at').pn},q.ev,q.head,q.start⟩ ⟨2,id,0⟩)  j (by show (gT _ _).length+m<=_;rw [qK];omega) (by show (q.ev++[_]).length+m<=_;simp;omega)
   generalize iS ⟨{q.s with pend:=gT q.s.pend (aG run at').pn},q.ev,q.head,q.start⟩ ⟨2,id,0⟩=q2 at *
   generalize gT q.s.pend (aG run at').pn=pq at *
   have w:(aG run at').pn=⟨(aG run at').g,(aG run at').seq,(aG run at').at'⟩:=rfl
   rw [w] at H
   generalize aG run at'=x at *
   have M:(iv ids).length=ids.length:=by simp
   have F:(rav run).length=run.length:=by simp
   clear o j k
   refine gV ?_
   exact zW
  rw [n] at c
  exact c r rfl
 refine cT (E:=E) (fn:=Tryz.f193) (g:=.full 2 _ _) fun _=>?_
 exact zW
abbrev ZF (r:Rd) (p:Pn) (b:Bool) (O:List AObj):Prop:=aA Tryz.prog 191 [.ref 0 0,p.av] (rdS r 0 0) (.ret (.bool b)) O
abbrev vL (r:Rd) (p:Pn) (O:List AObj):Prop:=aA Tryz.prog 120 [.ref 0 0,p.av] (rdS r 0 0) (.ret (.tup [])) O
abbrev aJ3 (r:Rd) (p:Pn) (Q:Option (List Int)):Prop:=aA Tryz.prog 192 [r.s.c.av,.slice 14 (rav r.s.run) .no,p.g.av] [] (.ret (chR Q)) []
abbrev aKs (r:Rd) (p:Pn) (Q:Option Int):Prop:=aA Tryz.prog 194 [r.s.c.av,ii r.s.now,.slice 14 (rav r.s.run) .no,p.g.av] [] (.ret (stA Q)) []
theorem vM (r R:Rd) (p:Pn) (h1:ZF r p true (rdS R 1 1)):vL r p (rdS R 1 1):=by
 exact zqya10
theorem aKR (s:Sta) (ev:List Ev) (st:Int) (p:Pn) (h1:ZF ⟨s,ev,true,st⟩ p false (rdS ⟨s,ev,true,st⟩ 0 0)):vL ⟨s,ev,true,st⟩ p (rdS ⟨s,ev,true,st⟩ 0 0):=by
 exact zqya10
set_option maxHeartbeats 1000000 in
theorem aKQ (s:Sta) (ev:List Ev) (p:Pn) (h1:ZF ⟨s,ev,false,0⟩ p false (rdS ⟨s,ev,false,0⟩ 0 0)) (a:aJ3 ⟨s,ev,false,0⟩ p none) (h3:aKs ⟨s,ev,false,0⟩ p none):vL ⟨s,ev,false,0⟩ p (rdS ⟨s,ev,false,0⟩ 0 0):=by
 exact zqya10
set_option maxHeartbeats 1000000 in
theorem aKP (s:Sta) (ev:List Ev) (st:Int) (p:Pn) (n:Int) (c:ev.length<=1000000) (h1:ZF ⟨s,ev,false,st⟩ p false (rdS ⟨s,ev,false,st⟩ 0 0)) (b:aJ3 ⟨s,ev,false,st⟩ p none) (h3:aKs ⟨s,ev,false,st⟩ p (some n)):vL ⟨s,ev,false,st⟩ p (rdS ⟨s,ev++[⟨4,p.g.id,n⟩],true,n⟩ 1 0):=by
 have a:=IP ⟨s,ev,true,n⟩ 4 p.g.id n (by show ev.length<=_;omega)
 unfold iS at a
 dsimp only at a
 generalize ev++[⟨4,p.g.id,n⟩]=ev2 at *
 refine cT (E:=(Er [] [39,40,59,60,61,62,63,64])) (fn:=Tryz.f120) (g:=.full 3 _ _) fun _=>?_
 repeat' first | (refine gN (hEr [] [39,40,59,60,61,62,63,64]) ?_;conv=>whnf) | refine .eff [] [0,1,2] _ _ rfl h1 ?_ | refine .pure _ [] b ?_ | refine .pure _ [] h3 ?_ | refine .sole rfl (.eff [] [0,1,2] _ _ rfl a ?_) | exact rfl | refine aY ?_ | refine aN ?_ | refine aT fun h=>?_ | refine aF fun h=>?_ | refine ⟨fun h=>?_,fun h=>?_⟩ | refine aJ ?_ | refine ⟨_,rfl,?_⟩ | refine aD ?_ | fail
 refine ⟨[],[0,1,2],⟨rfl,rfl⟩,rfl,rfl⟩
abbrev aL7 (r:Rd) (ids:List Int) (R:Rd):Prop:=aA Tryz.prog 193 [.ref 0 0,.slice 1 (iv ids) .no] (evB r r.s.run 0) (.ret (.tup [])) [rdO R (ruV R.s.run 2 0) 1,evT 1,ruT 0]
set_option maxHeartbeats 2000000 in
theorem CN (s:Sta) (ev:List Ev) (st:Int) (p:Pn) (ids:List Int) (R:Rd) (h1:ZF ⟨s,ev,false,st⟩ p false (rdS ⟨s,ev,false,st⟩ 0 0)) (i:aJ3 ⟨s,ev,false,st⟩ p (some ids)) (h3:aL7 ⟨s,ev,false,st⟩ ids R)
  (d:Rd) (b:Bool) (c a:Nat) (e:ZF R p b (rdS d c a)) (j:c=0/\a=0\/c=1/\a=1):vL ⟨s,ev,false,st⟩ p [rdO d (ruV d.s.run 3 0) 1,evT 1,ruT 0,ruT 0]:=by
 rcases j with ⟨rfl,rfl⟩ | ⟨rfl,rfl⟩
 all_goals
  refine cT (E:=(Er [] [39,40,59,60,61,62,63,64])) (fn:=Tryz.f120) (g:=.full 3 _ _) fun _=>?_
  repeat' first | (refine gN (hEr [] [39,40,59,60,61,62,63,64]) ?_;conv=>whnf) | refine .eff [] [0,1,2] _ _ rfl h1 ?_ | refine .pure _ [] i ?_ | refine .eff [] [0,1] _ _ rfl h3 ?_ | refine .eff [] [0,1,4] _ _ rfl e ?_ | exact rfl | refine aY ?_ | refine aN ?_ | refine aT fun h=>?_ | refine aF fun h=>?_ | refine ⟨fun h=>?_,fun h=>?_⟩ | refine aJ ?_ | refine ⟨_,rfl,?_⟩ | refine aD ?_ | fail
  refine ⟨[],[0,1,2,4],⟨rfl,rfl⟩,rfl,rfl⟩
def A2 (r:Rd) (p:Pn):Prop:=
 (bB r p=r/\vL r p (rdS r 0 0))\/vL r p (rdS (bB r p) 1 1)\/vL r p (rdS (bB r p) 1 0)\/vL r p [rdO (bB r p) (ruV (bB r p).s.run 3 0) 1,evT 1,ruT 0,ruT 0]
noncomputable abbrev aK6:Func:=Tryz.f44
abbrev SK:AObj:=.cells 31 [.slice 11 [] .nil,.slice 6 [] .nil,ii 0,ii 0,ii 0,ii 0,.slice 11 [] .nil,.slice 14 [] .nil,.slice 1 [] .nil]
abbrev aLO (L:List Pn) (i:Nat):List (Nat×AVal):=[(2,.ref 3 0),(4,.ref 0 0),(12,.slice 11 (pnv L) .no),(13,.int .i64 ((pnv L).length:Nat)),(14,ii i)]
abbrev aLN (r:Rd):List AObj:=[rdO r (ruV r.s.run 2 0) 0,evT 0,ruT 0,SK]
set_option maxHeartbeats 1000000 in
theorem aAv (b:Rd->List Pn->Prop) (j:∀ r p rest,b r (p::rest)->A2 r p/\b (bB r p) rest) (L:List Pn) (n:L.length<=1000000) (R:Rd):∀ (m i:Nat) (r:Rd),i+m=L.length->(L.drop i).foldl bB r=R->b r (L.drop i)->
  To E aK6 (.pure (.ret (.tup [R.s.av,.slice 3 (evv R.ev) .no]))) (.head (stk aK6 0) (aLO L i) (aLN r)):=by
 have g:(pnv L).length=L.length:=by simp
 intro m
 induction m with
 | zero=>
  intro i r k a _
  rw [Ae o_] at a
  have a:r=R:=a
  subst a
  refine gV ?_
  refine aF fun h=>?_
  refine cD hE 2 ?_;conv=>whnf
  refine To.permAt hE [0,1,2,3,4,5,6,7,9] [8] (by rfl) ?_;conv=>whnf
  refine aL ?_
  refine aL ?_
  exact zW
 | succ m l=>
  intro i r k a d
  have c:i<L.length:=o_
  rw [Ac c] at a d
  rw [Al] at a
  obtain ⟨h1,f⟩:=j _ _ _ d
  have get:=rR c
  generalize L[i]=p at a d h1 f get
  have next:=l (i+1) (bB r p) o_ a f
  rcases h1 with ⟨e,hl⟩ | hl | hl | hl
  .rw [e] at next
   refine gV ?_
   exact zW
  .exact zqya35
  .exact zqya35
  .generalize bB r p=r2 at *
   refine gV ?_
   refine aT fun h=>?_
   repeat' first | (refine gN hE ?_;conv=>whnf) | refine ⟨i,rfl,?_⟩ | refine ⟨_,get,?_⟩ | refine .eff [] [0,1,2] _ _ rfl hl ?_ | exact rfl | refine aY ?_ | refine aN ?_ | refine aT fun h=>?_ | refine aF fun h=>?_ | refine ⟨fun h=>?_,fun h=>?_⟩ | refine aJ ?_ | refine ⟨_,rfl,?_⟩ | refine aD ?_ | fail
   refine To.part [2,4,12,13,14] [0,1,5,3] rfl rfl rfl ?_
   exact next
theorem aGI (a:Rd->List Pn->Prop) (b:∀ r p rest,a r (p::rest)->A2 r p/\a (bB r p) rest) (s:Sta) (h:StaSm' s) (L:List Pn) (e:L.length<=1000000) (hs:aA Tryz.prog 119 [s.av] [] (.ret (.slice 11 (pnv L) .no)) []) (c:a ⟨s,[],false,0⟩ L):
  aA Tryz.prog 44 [s.av] [] (.ret (.tup [(L.foldl bB ⟨s,[],false,0⟩).s.av,.slice 3 (evv (L.foldl bB ⟨s,[],false,0⟩).ev) .no])) []:=by
 have h1:=aAv a b L e _ L.length 0 ⟨s,[],false,0⟩ o_ rfl c
 have d:=aGK s h
 rw [Bn] at h1
 generalize L.foldl bB ⟨s,[],false,0⟩=R at *
 refine c_ Tryz.f44 fun _=>?_
 repeat' first | (refine gN hE ?_;conv=>whnf) | refine .pure _ _ d ?_ | refine .pure _ [] hs ?_ | exact rfl | refine aY ?_ | refine aN ?_ | refine aT fun h=>?_ | refine aF fun h=>?_ | refine ⟨fun h=>?_,fun h=>?_⟩ | refine aJ ?_ | refine ⟨_,rfl,?_⟩ | refine aD ?_ | fail
 refine To.begin 3 9 84 rfl rfl ?_
 refine To.part [2,4,12,13,14] [3,4,2,1] rfl rfl rfl ?_
 exact h1
theorem vW (run:List Rn):∀ (ids:List Int) (r:Rd),(ids.foldl (cV run) r).s.c=r.s.c/\(ids.foldl (cV run) r).s.now=r.s.now/\(ids.foldl (cV run) r).s.nxt=r.s.nxt/\(ids.foldl (cV run) r).s.hist=r.s.hist/\(ids.foldl (cV run) r).s.run=r.s.run/\(ids.foldl (cV run) r).head=r.head/\(ids.foldl (cV run) r).start=r.start/\(ids.foldl (cV run) r).s.pend.length=r.s.pend.length+ids.length/\(ids.foldl (cV run) r).ev.length=r.ev.length+ids.length
 | [],r=>⟨rfl,rfl,rfl,rfl,rfl,rfl,rfl,rfl,rfl⟩
 | id::ids,r=>by
  obtain ⟨a,b,c,d,e,f,g,h,i⟩:=vW run ids (cV run r id)
  have h1:(cV run r id).s.pend.length=r.s.pend.length+1:=qK _ _
  have j:(cV run r id).ev.length=r.ev.length+1:=by show (r.ev++[_]).length=_;simp
  rw [Al]
  refine ⟨a,b,c,d,e,f,g,?_,?_⟩
  .rw [h,h1,Bq];omega
  .rw [i,j,Bq];omega
structure LookPre (r:Rd) (p:Pn):Prop where
 c:r.s.c.sm
 run:Sm r.s.run
 pend:r.s.pend.length<=900000
 ev:r.ev.length<=900000
 pods:0<=p.g.pods/\p.g.pods<=16
 start:r.head=false->r.start=0
 cho:bU r.s.c r.s.run p.g=none->∀ ids,dO r.s.c r.s.run p.g=some ids->ids≠[]/\ids.length<=100000/\∀ id∈ids,0<=aH (aV id) r.s.run 0
theorem aB0 (r:Rd) (p:Pn) (h:LookPre r p):A2 r p:=by
 have t:=h.pend
 have f:=h.ev
 rcases OP r p h.c h.run o_ o_ h.pods with ⟨e,i⟩ | ⟨e,i⟩
 .have m:(admR r p).2=false:=by rw [e]
  obtain ⟨s,ev,head,start⟩:=r
  cases head with
  | true=>
   have a:bB ⟨s,ev,true,start⟩ p=⟨s,ev,true,start⟩:=by
    unfold bB
    rw [if_neg (by rw [m];decide),if_pos rfl]
   exact .inl ⟨a,aKR s ev start p i⟩
  | false=>
   have a:bB ⟨s,ev,false,start⟩ p=aB1 ⟨s,ev,false,start⟩ p (dO s.c s.run p.g):=by
    unfold bB
    rw [if_neg (by rw [m];decide),if_neg (show ¬ false=true by decide)]
   have b:=Y3 s.c h.c s.run h.run p.g h.pods
   have d:=h.cho
   dsimp only at d
   cases k:dO s.c s.run p.g with
   | none=>
    rw [k] at b a
    have hst:=aAa s.c h.c s.now s.run h.run p.g h.pods
    have a:bB ⟨s,ev,false,start⟩ p=XA ⟨s,ev,false,start⟩ p (lE s.c s.now s.run p.g):=a
    cases hs:lE s.c s.now s.run p.g with
    | none=>
     rw [hs] at hst a
     have A:start=0:=h.start rfl
     subst A
     exact .inl ⟨a,aKQ s ev p i b hst⟩
    | some n=>
     rw [hs] at hst a
     have a:bB ⟨s,ev,false,start⟩ p=⟨s,ev++[⟨4,p.g.id,n⟩],true,n⟩:=a
     refine .inr (.inr (.inl ?_))
     rw [a]
     exact aKP s ev start p n (by dsimp only at f;omega) i b hst
   | some ids=>
    rw [k] at b a
    have o:bU s.c s.run p.g=none:=by
     have u:(wH ⟨s,ev,false,start⟩ p (bU s.c s.run p.g)).2=false:=m
     cases G:bU s.c s.run p.g with
     | none=>rfl
     | some x=>rw [G] at u;have H:true=false:=u;cases H
    obtain ⟨B,K,C⟩:=d o ids k
    have a:bB ⟨s,ev,false,start⟩ p=(admR (fO ⟨s,ev,false,start⟩ ids) p).1:=a
    have v:=aCN ⟨s,ev,false,start⟩ s.run rfl h.run ids o_ B C (by dsimp only at t⊢;omega) (by dsimp only at f⊢;omega)
    obtain ⟨D,_,_,_,J,_,_,z,I⟩:=vW s.run ids ⟨s,ev,false,start⟩
    have l:(fO ⟨s,ev,false,start⟩ ids).s.c=s.c:=D
    have q:(fO ⟨s,ev,false,start⟩ ids).s.run=aB s.run ids:=rfl
    have y:(fO ⟨s,ev,false,start⟩ ids).s.pend.length=s.pend.length+ids.length:=z
    have F:(fO ⟨s,ev,false,start⟩ ids).ev.length=ev.length+ids.length:=I
    refine .inr (.inr (.inr ?_))
    rw [a]
    generalize fO ⟨s,ev,false,start⟩ ids=R at *
    dsimp only at t f
    rcases OP R p (by rw [l];exact h.c) (by rw [q];exact iU h.run ids) o_ o_ h.pods with ⟨w,j⟩ | ⟨w,j⟩
    .rw [w]
     exact CN s ev start p ids R i b v R false 0 0 j (.inl ⟨rfl,rfl⟩)
    .exact CN s ev start p ids R i b v (admR R p).1 true 1 1 j (.inr ⟨rfl,rfl⟩)
 .have a:bB r p=(admR r p).1:=by
   unfold bB
   rw [if_pos e]
  refine .inr (.inl ?_)
  rw [a]
  exact vM r (admR r p).1 p i
abbrev r3O (r:Rd) (ge:Nat):AObj:=.cells 148 (rdC r (.slice 14 (rav r.s.run) .no) ge)
abbrev r3S (r:Rd) (ge:Nat):List AObj:=[r3O r ge,evT ge]
theorem FK (l:List Pn) (a:Int) (hl:l.length<=1000000):aA Tryz.prog 27 [.slice 11 (pnv l) .no,ii a] [] (.ret (.tup [.slice 11 (pnv (cS l a)) .no,.bool (!decide (eJ a l<0))])) []:=by
 have h:=Q2.takeref_ok (l.map Pn.q) a (by simpa using hl)
 rw [<-S0,nR,nR] at h
 exact h
theorem LB (l:List Pn) (p:Pn) (hl:l.length<=1000000):aA Tryz.prog 66 [.slice 11 (pnv l) .no,p.av] [] (.ret (.slice 11 (pnv (gT l p)) .no)) []:=by
 have h:=Q2.putref_ok (l.map Pn.q) p.q (by simpa using hl)
 rw [<-P3,nR,nR] at h
 exact h
theorem aJr {n a:Nat} (h:n<=1048576) (b:a<=1000):zU n a:=Aa (by simp only [maxLen];omega) (Co (Fa h b) d_)
set_option maxHeartbeats 1000000 in
theorem FM (r:Rd) (p:Pn) (fl:Int) (hs:List Int) (hp:r.s.pend.length<=1000000) (c:r.ev.length<=1000000) (e:r.s.run.length<=1000000):
  aA Tryz.prog 145 [.ref 0 0,p.av,ii fl,.slice 1 (iv hs) .no] (r3S r 0) (.ret (.tup [])) (r3S (uC r p fl hs) 1):=by
 obtain ⟨s,ev,head,start⟩:=r
 have j:=FK s.pend p.g.id hp
 have b:(evv ev).length<=1048576:=by simp;dsimp only at c;omega
 have a:(rav s.run).length<=1048576:=by simp;dsimp only at e;omega
 have i:rav (s.run++[⟨p.g,p.seq,p.at',s.now,fl,hs⟩])=rav s.run++[Rn.av ⟨p.g,p.seq,p.at',s.now,fl,hs⟩]:=by simp
 have d:evv (ev++[⟨1,p.g.id,fl⟩])=evv ev++[Ev.av ⟨1,p.g.id,fl⟩]:=by simp
 unfold uC r3S r3O rdC
 dsimp only
 rw [i,d]
 generalize cS s.pend p.g.id=pq at *
 clear i d c e hp
 refine cT (E:=(Er [] [21,39,49,50,51,52,64,65])) (fn:=Tryz.f145) (g:=.full 2 _ _) fun _=>?_
 repeat' first | (refine gN (hEr [] [21,39,49,50,51,52,64,65]) ?_;conv=>whnf) | refine .pure _ [] j ?_ | refine Aa (aJr a d_) ?_ | refine Aa (C9 a d_) ?_ | refine Aa (C9 b d_) ?_ | exact rfl | refine aY ?_ | refine aN ?_ | refine aT fun h=>?_ | refine aF fun h=>?_ | refine ⟨fun h=>?_,fun h=>?_⟩ | refine aJ ?_ | refine ⟨_,rfl,?_⟩ | refine aD ?_ | fail
 refine ⟨[],[0,1],⟨rfl,rfl⟩,rfl,rfl⟩
noncomputable abbrev GV:Func:=Tryz.f147
def LX (q:Rd) (x:Pn):Rd:=⟨{q.s with pend:=gT q.s.pend x},q.ev,q.head,q.start⟩
def zX (id:Int) (q:Rd) (x:Rn):Rd:=if aV id x=true then LX q x.pn else q
abbrev aIC (ids:List Int) (i:Nat):List (Nat×AVal):=[(0,.ref 0 0),(1,.slice 1 (iv ids) .no),(4,ii i)]
abbrev aIB (R:Rd):Goal:=.full 2 (.ret (.tup [])) (r3S R 1)
set_option maxHeartbeats 2000000 in
theorem aKH (ids:List Int) (y:ids.length<=1048576) (R:Rd) (run:List Rn) (hs:Sm run) (i:Nat) (id:Int) (get:(iv ids)[i]? =some (ii id)) (Q:Rd) (w:Q.ev.length<=1000000)
  (next:To (Er [] [56,68,69]) GV (aIB R) (.head (stk GV 0) (aIC ids (i+1)) (r3S (iS Q ⟨2,id,0⟩) 1))) (g:Nat) (j:g=0\/g=1):∀ (m k:Nat) (q:Rd),k+m=run.length->q.s.run=run->(run.drop k).foldl (zX id) q=Q->q.s.pend.length+m<=1000000->
  To (Er [] [56,68,69]) GV (aIB R) (.head (stk GV 1) (aIC ids i++[(5,ii k)]) (r3S q g)):=by
 have z:i<ids.length:=by have:=(Ad.1 get).1;simpa using this
 have u:(iv ids).length=ids.length:=by simp
 intro m
 induction m with
 | zero=>
  intro k q r b a _
  rw [Ae o_] at a
  have a:q=Q:=a
  subst a
  have f:(rav q.s.run).length=k:=by rw [b];simp;omega
  have v:(evv q.ev).length<=1048576:=by simp;omega
  have n:evv (q.ev++[⟨2,id,0⟩])=evv q.ev++[Ev.av ⟨2,id,0⟩]:=by simp
  unfold r3S r3O rdC iS at next
  dsimp only at next
  rw [n] at next
  have t:=hs.1
  clear n b
  rcases j with rfl | rfl
  all_goals
   refine gV ?_
   exact zW
 | succ m d=>
  intro k q r b a hp
  have c:k<run.length:=o_
  rw [Ac c,Al] at a
  have o:(rav q.s.run)[k]? =some run[k].av:=by rw [b];exact bN c
  have f:(rav q.s.run).length=run.length:=by rw [b];simp
  have t:=hs.1
  generalize run[k]=x at a o
  unfold zX at a
  cases e:aV id x with
  | true=>
   rw [if_pos e] at a
   have p:=LB q.s.pend x.pn o_
   have h:=d (k+1) (LX q x.pn) o_ b a (by show (gT _ _).length+m<=_;rw [qK];omega)
   have l:x.pn=⟨x.g,x.seq,x.at'⟩:=rfl
   unfold r3S r3O rdC LX at h
   dsimp only at h
   generalize gT q.s.pend x.pn=pq at *
   rw [l] at p
   unfold aV at e
   clear d next a
   rcases j with rfl | rfl
   all_goals
    refine gV ?_
    exact zW
  | false=>
   rw [if_neg (by rw [e];decide)] at a
   have h:=d (k+1) q o_ b a o_
   unfold aV at e
   clear d next a
   rcases j with rfl | rfl
   all_goals
    refine gV ?_
    exact zW
theorem FU (id:Int):∀ (l:List Rn) (q:Rd),(∀ x∈l,aV id x=false)->l.foldl (zX id) q=q
 | [],_,_=>rfl
 | x::l,q,h=>by
  have e:zX id q x=q:=by unfold zX;rw [if_neg (by rw [h x (Ax ..)];decide)]
  rw [Al,e]
  exact FU id l q fun y a=>h y (Bd _ a)
theorem CE (id:Int):∀ (l:List Rn) (i:Nat) (q:Rd),(l.map fun x=>x.g.id).Nodup->0<=aH (aV id) l i->l.foldl (zX id) q=LX q (aG l (aH (aV id) l i-i).toNat).pn
 | [],i,q,_,h=>by have h:(0:Int)<= -1:=h;omega
 | x::l,i,q,hn,h=>by
  rw [Bp,Cg] at hn
  rw [Al]
  unfold aH at h⊢
  by_cases a:aV id x=true
  .rw [if_pos a] at h⊢
   have e:((i:Int)-i).toNat=0:=o_
   rw [e]
   have b:zX id q x=LX q x.pn:=by unfold zX;rw [if_pos a]
   rw [b]
   refine FU id l _ fun y f=>?_
   unfold aV at a⊢
   have a:x.g.id=id:=by simpa using a
   have:y.g.id≠x.g.id:=fun d=>hn.1 (d▸Cw f)
   simp
   omega
  .rw [if_neg a] at h⊢
   have b:zX id q x=q:=by unfold zX;rw [if_neg a]
   rw [b,CE id l (i+1) q hn.2 h]
   rcases lQ (aV id) l (i+1) with c | c
   .omega
   .have e:(aH (aV id) l (i+1)-i).toNat=(aH (aV id) l (i+1)-((i+1:Nat):Int)).toNat+1:=o_
    rw [e]
    rfl
theorem aJE (run:List Rn) (a:(run.map fun x=>x.g.id).Nodup) (q:Rd) (id:Int) (h:0<=aH (aV id) run 0):iS (run.foldl (zX id) q) ⟨2,id,0⟩=cV run q id:=by
 rw [CE id run 0 q a h]
 have e:(aH (aV id) run 0-((0:Nat):Int)).toNat=(aH (aV id) run 0).toNat:=o_
 rw [e]
 rfl
set_option maxHeartbeats 2000000 in
theorem aIH (run:List Rn) (hs:Sm run) (k:(run.map fun x=>x.g.id).Nodup) (ids:List Int) (h:ids.length<=1048576) (f:∀ id∈ids,0<=aH (aV id) run 0) (R Q:Rd) (e:R=⟨{Q.s with run:=aB run ids},Q.ev,Q.head,Q.start⟩):∀ (m i:Nat) (q:Rd) (g:Nat),i+m=ids.length->(g=1\/g=0/\0<m)->q.s.run=run->(ids.drop i).foldl (cV run) q=Q->q.s.pend.length+m+run.length<=1000000->q.ev.length+m<=1000000->
  To (Er [] [56,68,69]) GV (aIB R) (.head (stk GV 0) (aIC ids i) (r3S q g)):=by
 have t:(iv ids).length=ids.length:=by simp
 intro m
 induction m with
 | zero=>
  intro i q g r l d a hp o
  rw [Ae o_] at a
  have a:q=Q:=a
  subst a
  have w:=mK q.s.run (by rw [d];exact hs) ids h
  rw [<-d] at e
  generalize aB q.s.run ids=rn at *
  subst e
  obtain rfl:g=1:=o_
  refine gV ?_
  exact zW
 | succ m j=>
  intro i q g r l d a hp o
  have b:i<ids.length:=o_
  rw [Ac b,Al] at a
  have c:=f _ (Bb b)
  have get:(iv ids)[i]? =some (ii ids[i]):=by simp [b]
  generalize ids[i]=id at a c get
  have n:=aJE run k q id c
  have y:(cV run q id).s.pend.length=q.s.pend.length+1:=qK _ _
  have v:(cV run q id).ev.length=q.ev.length+1:=by show (q.ev++[_]).length=_;simp
  have next:=j (i+1) (cV run q id) 1 o_ (.inl rfl) d a o_ o_
  rw [<-n] at next
  have p:(run.foldl (zX id) q).ev.length=q.ev.length:=by rw [CE id run 0 q k c];rfl
  have u:=aKH ids h R run hs i id get _ o_ next g o_ run.length 0 q o_ d rfl o_
  clear next j n a
  rcases l with rfl | ⟨rfl,_⟩
  all_goals
   refine gV ?_
   exact zW
theorem W9 (r:Rd) (ids:List Int) (hs:Sm r.s.run) (e:(r.s.run.map fun x=>x.g.id).Nodup) (c:ids.length<=1048576) (b:ids≠[]) (a:∀ id∈ids,0<=aH (aV id) r.s.run 0) (hp:r.s.pend.length+ids.length+r.s.run.length<=1000000) (d:r.ev.length+ids.length<=1000000):
  aA Tryz.prog 147 [.ref 0 0,.slice 1 (iv ids) .no] (r3S r 0) (.ret (.tup [])) (r3S (fO r ids) 1):=by
 have h:=aIH r.s.run hs e ids c a (fO r ids) _ rfl ids.length 0 r 0 o_ (.inr ⟨rfl,Gp.2 b⟩) rfl rfl hp d
 generalize fO r ids=R at *
 refine cT (E:=(Er [] [56,68,69])) (fn:=Tryz.f147) (g:=.full 2 _ _) fun _=>?_
 exact zW
abbrev EP (r:Rd) (p:Pn) (O:List AObj):Prop:=aA Tryz.prog 72 [.ref 0 0,p.av] (r3S r 0) (.ret (.tup [])) O
abbrev yM (c:Con) (run:List Rn) (p:Pn) (Q:Option (Int×List Int)):Prop:=aA Tryz.prog 135 [c.av,.slice 14 (rav run) .no,p.g.av] [] (.ret (fdA Q)) []
abbrev aHi (s:Sta) (st:Int) (p:Pn) (b:Bool):Prop:=aA Tryz.prog 144 [ii s.now,p.g.av,ii st] [] (.ret (.bool b)) []
abbrev aBc (s:Sta) (p:Pn) (Q:Option (List Int)):Prop:=aA Tryz.prog 146 [s.c.av,.slice 14 (rav s.run) .no,p.g.av] [] (.ret (chR Q)) []
abbrev aHh (s:Sta) (p:Pn) (Q:Option Int):Prop:=aA Tryz.prog 148 [s.c.av,ii s.now,.slice 14 (rav s.run) .no,p.g.av] [] (.ret (stA Q)) []
abbrev aBg (r:Rd) (p:Pn) (fl:Int) (hs:List Int) (R:Rd):Prop:=aA Tryz.prog 145 [.ref 0 0,p.av,ii fl,.slice 1 (iv hs) .no] (r3S r 0) (.ret (.tup [])) (r3S R 1)
abbrev aLP (r:Rd) (ids:List Int) (R:Rd):Prop:=aA Tryz.prog 147 [.ref 0 0,.slice 1 (iv ids) .no] (r3S r 0) (.ret (.tup [])) (r3S R 1)
theorem aL1 (s:Sta) (ev:List Ev) (st:Int) (p:Pn) (fl:Int) (hs:List Int) (R:Rd) (h1:yM s.c s.run p (some (fl,hs))) (a:aBg ⟨s,ev,false,st⟩ p fl hs R):EP ⟨s,ev,false,st⟩ p (r3S R 1):=by
 exact zqya0
theorem aL0 (s:Sta) (ev:List Ev) (st:Int) (p:Pn) (fl:Int) (hs:List Int) (R:Rd) (h1:yM s.c s.run p (some (fl,hs))) (hm:aHi s st p true) (a:aBg ⟨s,ev,true,st⟩ p fl hs R):EP ⟨s,ev,true,st⟩ p (r3S R 1):=by
 exact zqya0
theorem aLY (s:Sta) (ev:List Ev) (st:Int) (p:Pn) (x:Int×List Int) (h1:yM s.c s.run p (some x)) (hm:aHi s st p false):EP ⟨s,ev,true,st⟩ p (r3S ⟨s,ev,true,st⟩ 0):=by
 exact zqya0
theorem aLZ (s:Sta) (ev:List Ev) (st:Int) (p:Pn) (h1:yM s.c s.run p none):EP ⟨s,ev,true,st⟩ p (r3S ⟨s,ev,true,st⟩ 0):=by
 exact zqya0
set_option maxHeartbeats 1000000 in
theorem aLX (s:Sta) (ev:List Ev) (st:Int) (p:Pn) (h1:yM s.c s.run p none) (a:aBc s p none) (h3:aHh s p none):EP ⟨s,ev,false,st⟩ p (r3S ⟨s,ev,false,st⟩ 0):=by
 exact zqya0
set_option maxHeartbeats 1000000 in
theorem aLW (s:Sta) (ev:List Ev) (st:Int) (p:Pn) (n:Int) (e:ev.length<=1000000) (h1:yM s.c s.run p none) (d:aBc s p none) (h3:aHh s p (some n)):EP ⟨s,ev,false,st⟩ p (r3S ⟨s,ev++[⟨4,p.g.id,n⟩],true,n⟩ 1):=by
 have b:(evv ev).length<=1048576:=by simp;omega
 have a:evv (ev++[⟨4,p.g.id,n⟩])=evv ev++[Ev.av ⟨4,p.g.id,n⟩]:=by simp
 unfold EP r3S r3O rdC
 dsimp only
 rw [a]
 exact zqya0
set_option maxHeartbeats 2000000 in
theorem aLV (s:Sta) (ev:List Ev) (st:Int) (p:Pn) (ids:List Int) (R a:Rd) (fl:Int) (hs:List Int) (h1:yM s.c s.run p none) (d:aBc s p (some ids)) (h3:aLP ⟨s,ev,false,st⟩ ids R) (e:yM s.c R.s.run p (some (fl,hs))) (b:aBg R p fl hs a):EP ⟨s,ev,false,st⟩ p (r3S a 1):=by
 exact zqya0
theorem wZ (l:List Pn) (p:Pn):(gT l p).Perm (p::l):=by
 unfold gT
 have h:=Bk (Q2.putAt p.q (l.map Pn.q)) l
 generalize Et (Q2.putAt p.q (l.map Pn.q)) l=A at *
 generalize Fp (Q2.putAt p.q (l.map Pn.q)) l=B at *
 rw [<-h,Aj]
 exact Ej
theorem C1 (a:Int):∀ (l:List Pn) (i:Nat),((∀ p∈l,p.g.id≠a)/\Q2.idx (fun x=>x.id==a) (l.map Pn.q) i= -1)\/∃ A p B,l=A++p::B/\p.g.id=a/\Q2.idx (fun x=>x.id==a) (l.map Pn.q) i=((i+A.length:Nat):Int)
 | [],i=>.inl ⟨fun p hp=>(by cases hp),rfl⟩
 | p::l,i=>by
  rw [Bp]
  unfold Q2.idx
  by_cases h:p.g.id=a
  .right
   refine ⟨[],p,l,rfl,h,?_⟩
   have e:(p.q.id==a)=true:=by show (p.g.id==a)=true;rw [h];simp
   simp [e]
  .have e:(p.q.id==a)=false:=by show (p.g.id==a)=false;simpa using h
   simp only [e]
   rcases C1 a l (i+1) with ⟨h1,b⟩ | ⟨A,x,B,h1,b,h3⟩
   .left
    refine ⟨fun q c=>?_,b⟩
    rcases Au.1 c with rfl | c
    .exact h
    .exact h1 q c
   .right
    refine ⟨p::A,x,B,by rw [h1];rfl,b,?_⟩
    refine h3.trans ?_
    rw [Bq]
    congr 1
    omega
theorem AR (a:Int) (l:List Pn):((∀ p∈l,p.g.id≠a)/\eJ a l= -1)\/∃ A p B,l=A++p::B/\p.g.id=a/\eJ a l=(A.length:Int):=by
 have h:=C1 a l 0
 simp only [Bw] at h
 exact h
theorem BH {l:List Pn} {p:Pn} (hp:p∈l) (i:(l.map fun x=>x.g.id).Nodup):(p::cS l p.g.id).Perm l/\∀ q∈l,q≠p->q∈cS l p.g.id:=by
 rcases AR p.g.id l with ⟨h,_⟩ | ⟨A,x,B,h1,f,h3⟩
 .exact absurd rfl (h p hp)
 .have j:x=p:=by
   subst h1
   rw [Cc,Bp,Bu] at i
   obtain ⟨_,d,b⟩:=i
   rw [Cg] at d
   rcases Az.1 hp with hp | hp
   .exact absurd f.symm (b _ (Cw hp) _ (Ax ..))
   .rcases Au.1 hp with hp | hp
    .exact hp.symm
    .exact absurd (f▸Cw hp) d.1
  subst j
  have e:cS l x.g.id=A++B:=by
   unfold cS
   rw [if_neg o_,h3,h1]
   show (A++x::B).eraseIdx A.length=_
   rw [Jd (Ba _),Lv]
   rfl
  rw [e]
  refine ⟨by rw [h1];exact Ej.symm,fun q a c=>?_⟩
  rw [h1] at a
  rcases Az.1 a with a | a
  .exact Dr _ a
  .rcases Au.1 a with a | a
   .exact absurd a c
   .exact De _ a
theorem DC {id:Int} (l:List Rn):∀ (i:Nat) (x:Rn),x∈l->x.g.id=id->0<=aH (aV id) l i:=by
 induction l with
 | nil=>intro i x a;cases a
 | cons y l c=>
  intro i x a h
  unfold aH
  by_cases b:aV id y=true
  .rw [if_pos b];omega
  .rw [if_neg b]
   rcases Au.1 a with e | a
   .exact absurd (by unfold aV;rw [<-e];simpa using h) b
   .exact c (i+1) x a h
theorem YG {id:Int} (l:List Rn):∀ (i:Nat),0<=aH (aV id) l i->aG l (aH (aV id) l i-i).toNat∈l/\(aG l (aH (aV id) l i-i).toNat).g.id=id:=by
 induction l with
 | nil=>intro i h;have h:(0:Int)<= -1:=h;omega
 | cons y l c=>
  intro i h
  unfold aH at h⊢
  by_cases a:aV id y=true
  .rw [if_pos a]
   have e:((i:Int)-i).toNat=0:=o_
   rw [e]
   unfold aV at a
   exact ⟨Ax ..,(by simpa using a:y.g.id=id)⟩
  .rw [if_neg a] at h⊢
   obtain ⟨h1,b⟩:=c (i+1) h
   rcases lQ (aV id) l (i+1) with h3 | h3
   .omega
   .have e:(aH (aV id) l (i+1)-i).toNat=(aH (aV id) l (i+1)-((i+1:Nat):Int)).toNat+1:=o_
    rw [e]
    exact ⟨Bd _ h1,b⟩
def xOf (run:List Rn) (id:Int):Rn:=aG run (aH (aV id) run 0).toNat
theorem kZ {run:List Rn} {id:Int} (h:0<=aH (aV id) run 0):xOf run id∈run/\(xOf run id).g.id=id:=by
 have a:=YG run 0 h
 have e:(aH (aV id) run 0-((0:Nat):Int)).toNat=(aH (aV id) run 0).toNat:=o_
 rw [e] at a
 exact a
theorem GR (run:List Rn):∀ (ids:List Int) (r:Rd),(ids.foldl (cV run) r).s.pend.Perm (ids.map (fun id=>(xOf run id).pn)++r.s.pend)
 | [],r=>Fb _
 | id::ids,r=>by
  rw [Al,Bp]
  refine (GR run ids (cV run r id)).trans ?_
  have h:(cV run r id).s.pend=gT r.s.pend (xOf run id).pn:=rfl
  rw [h]
  refine (Dk _ (wZ _ _)).trans ?_
  exact Ej
theorem ML {l:List Rn} (h:pM l):(l.map fun x=>x.g.id).Nodup:=by
 unfold Ii
 rw [Dc]
 exact Jh (fun h=>h.1) h
theorem ME {run:List Rn} (k:pM run) {ids:List Int} (m:ids.Nodup) (c:∀ id∈ids,0<=aH (aV id) run 0):(ids.map (xOf run)++aB run ids).Perm run:=by
 have d:run.Nodup:=Jh (fun h e=>h.1 (by rw [e])) k
 have h1:(ids.map (xOf run)).Nodup:=by
  unfold Ii
  rw [Dc]
  refine List.Pairwise.imp_of_mem (fun {a b} j i hab e=>hab ?_) m
  rw [<-(kZ (c a j)).2,<-(kZ (c b i)).2,e]
 have l:(aB run ids).Nodup:=d.sublist Ir
 refine (List.perm_ext_iff_of_nodup ?_ d).2 fun x=>?_
 .refine Bu.2 ⟨h1,l,fun a j b i e=>?_⟩
  obtain ⟨id,hid,rfl⟩:=Ce.1 j
  subst e
  exact (gZ.1 i).2 (by rw [(kZ (c id hid)).2];exact hid)
 .constructor
  .intro h
   rcases Az.1 h with h | h
   .obtain ⟨id,hid,rfl⟩:=Ce.1 h
    exact (kZ (c id hid)).1
   .exact (gZ.1 h).1
  .intro h
   by_cases f:x.g.id∈ids
   .refine Dr _ (Ce.2 ⟨x.g.id,f,?_⟩)
    exact aFa k (kZ (c _ f)).1 h (kZ (c _ f)).2
   .exact De _ (gZ.2 ⟨h,f⟩)
structure Base (s:Sta):Prop where
 c:s.c.sm
 ids:((s.pend++s.run.map Rn.pn).map fun x=>x.g.id).Nodup
 seqs:((s.pend++s.run.map Rn.pn).map fun x=>x.seq).Nodup
 few:(s.pend++s.run.map Rn.pn).length<=39
 gang:∀ x∈s.pend++s.run.map Rn.pn,(0<=x.g.pods/\x.g.pods<=16)/\aQ x.g.need=true/\x.g.id≠0
structure RCore (s:Sta) (r:Rd) (rest:List Pn):Prop where
 c:r.s.c=s.c
 now:r.s.now=s.now
 nxt:r.s.nxt=s.nxt
 hist:r.s.hist=s.hist
 perm:(r.s.pend++r.s.run.map Rn.pn).Perm (s.pend++s.run.map Rn.pn)
 sub:∀ p∈rest,p∈r.s.pend
 rn:rest.Nodup
 start:r.head=false->r.start=0
 hs:∀ x∈r.s.run,x.hs.length<=1048576
theorem RCore.few {s:Sta} {r:Rd} {rest:List Pn} (b:Base s) (h:RCore s r rest):r.s.pend.length+r.s.run.length<=39:=by
 have:=h.perm.length_eq
 have a:=b.few
 simp at this a
 omega
theorem RCore.sm {s:Sta} {r:Rd} {rest:List Pn} (b:Base s) (h:RCore s r rest):Sm r.s.run:=⟨by have:=h.few b;omega,h.hs⟩
theorem RCore.once {s:Sta} {r:Rd} {rest:List Pn} (b:Base s) (h:RCore s r rest):pM r.s.run:=by
 have h1:=((h.perm.map fun x=>x.g.id).nodup_iff).2 b.ids
 have a:=((h.perm.map fun x=>x.seq).nodup_iff).2 b.seqs
 rw [Cc,Bu,Gq] at h1 a
 have h1:=h1.2.1
 have a:=a.2.1
 unfold Ii at h1 a
 rw [Dc] at h1 a
 exact h1.and a
theorem RCore.pids {s:Sta} {r:Rd} {rest:List Pn} (b:Base s) (h:RCore s r rest):(r.s.pend.map fun x=>x.g.id).Nodup:=by
 have h1:=((h.perm.map fun x=>x.g.id).nodup_iff).2 b.ids
 rw [Cc,Bu] at h1
 exact h1.1
theorem RCore.gangP {s:Sta} {r:Rd} {rest:List Pn} (b:Base s) (h:RCore s r rest) {p:Pn} (hp:p∈r.s.pend):(0<=p.g.pods/\p.g.pods<=16)/\aQ p.g.need=true/\p.g.id≠0:=
 b.gang p (h.perm.mem_iff.1 (Dr _ hp))
theorem RCore.gangR {s:Sta} {r:Rd} {rest:List Pn} (b:Base s) (h:RCore s r rest) {x:Rn} (a:x∈r.s.run):(0<=x.g.pods/\x.g.pods<=16)/\aQ x.g.need=true/\x.g.id≠0:=
 b.gang x.pn (h.perm.mem_iff.1 (De _ (Cw a)))
theorem RCore.skip {s:Sta} {r:Rd} {p:Pn} {rest:List Pn} (h:RCore s r (p::rest)):RCore s r rest:=
 {h with sub:=fun q a=>h.sub q (Bd _ a),rn:=(Cg.1 h.rn).2}
theorem RCore.adm {s:Sta} {r:Rd} {p:Pn} {rest:List Pn} (b:Base s) (h:RCore s r (p::rest)) {fl:Int} {hs:List Int} (hl:hs.length<=1048576):RCore s (uC r p fl hs) rest where
 c:=h.c
 now:=h.now
 nxt:=h.nxt
 hist:=h.hist
 perm:=by
  have hp:=(BH (h.sub p (Ax ..)) (h.pids b)).1
  show (cS r.s.pend p.g.id++(r.s.run++[_]).map Rn.pn).Perm _
  refine Ma ?_ h.perm
  rw [Cc,<-Aj]
  refine (Dl (l₂:=[p])).trans ?_
  rw [<-Aj]
  exact Dq _ hp
 sub q hq:=(BH (h.sub p (Ax ..)) (h.pids b)).2 q (h.sub q (Bd _ hq)) fun e=>(Cg.1 h.rn).1 (e▸hq)
 rn:=(Cg.1 h.rn).2
 start:=h.start
 hs x hx:=by
  rcases Az.1 hx with hx | hx
  .exact h.hs x hx
  .rw [Du.1 hx]
   exact hl
theorem RCore.evic {s:Sta} {r:Rd} {rest:List Pn} (b:Base s) (h:RCore s r rest) {ids:List Int} (m:ids.Nodup) (d:∀ id∈ids,0<=aH (aV id) r.s.run 0):RCore s (fO r ids) rest:=by
 obtain ⟨k,i,j,n,_,g,l,_,_⟩:=vW r.s.run ids r
 have hp:=GR r.s.run ids r
 refine ⟨k.trans h.c,i.trans h.now,j.trans h.nxt,n.trans h.hist,?_,fun p a=>hp.mem_iff.2 (De _ (h.sub p a)),h.rn,fun e=>?_,fun x o=>h.hs x (Fk.1 o).1⟩
 .show ((ids.foldl (cV r.s.run) r).s.pend++(aB r.s.run ids).map Rn.pn).Perm _
  refine Ma ?_ h.perm
  refine (Dq _ hp).trans ?_
  have f:=(ME (h.once b) m d).map Rn.pn
  rw [Cc,Gq] at f
  refine (Dq _ Dl).trans ?_
  rw [Aj]
  exact Dk _ f
 .show (ids.foldl (cV r.s.run) r).start=0
  rw [l]
  refine h.start ?_
  rw [<-g]
  exact e
theorem sF {s:Sta} {r:Rd} {rest:List Pn} (b:Base s) (h:RCore s r rest) {g:Gan} (i:bU r.s.c r.s.run g=none) {ids:List Int} (a:dO r.s.c r.s.run g=some ids):
  ids≠[]/\ids.Nodup/\ids.length<=39/\(∀ id∈ids,0<=aH (aV id) r.s.run 0)/\∃ x,bU r.s.c (aB r.s.run ids) g=some x:=by
 obtain ⟨_,h1,f,h3⟩:=yY a
 have hl:=aGR (h.once b) a
 have d:=h.few b
 refine ⟨fun e=>?_,h1,by omega,fun id hid=>?_,Da.1 h3⟩
 .subst e
  unfold mD at h3
  rw [dK,i] at h3
  cases h3
 .obtain ⟨_,x,j,e,_⟩:=f id hid
  exact DC _ 0 x j e
theorem aFB {s:Sta} {r:Rd} {p:Pn} {rest:List Pn} (b:Base s) (h:RCore s r (p::rest)) (he:r.ev.length<=900000):LookPre r p where
 c:=by rw [h.c];exact b.c
 run:=h.sm b
 pend:=by have:=h.few b;omega
 ev:=he
 pods:=(h.gangP b (h.sub p (Ax ..))).1
 start:=h.start
 cho hf ids hq:=by
  obtain ⟨a1,_,a3,a4,_⟩:=sF b h hf hq
  exact ⟨a1,by omega,a4⟩
theorem XZ {s:Sta} {r:Rd} {p:Pn} {rest:List Pn} (b:Base s) (h:RCore s r (p::rest)):RCore s (bB r p) rest/\(bB r p).ev.length<=r.ev.length+40:=by
 have o:=(h.gangP b (h.sub p (Ax ..))).1
 have a:=h.skip
 have k:∀ {q:Rd},RCore s q (p::rest)->RCore s (admR q p).1 rest/\(admR q p).1.ev.length<=q.ev.length+1:=fun {q} d=>by
  unfold admR
  cases j:bU q.s.c q.s.run p.g with
  | none=>exact ⟨d.skip,Nat.le_succ _⟩
  | some x=>
   have t:=DB o j
   obtain ⟨fl,hs⟩:=x
   unfold wH
   dsimp only
   split
   .exact ⟨d.skip,Nat.le_succ _⟩
   .exact ⟨d.adm b t,by show (q.ev++[_]).length<=_;simp⟩
 unfold bB
 split
 .exact ⟨(k h).1,by have:=(k h).2;omega⟩
 .rename_i l
  split
  .exact ⟨a,by omega⟩
  .rename_i v
   have f:r.head=false:=by cases d:r.head with | false=>rfl | true=>exact absurd d v
   have i:bU r.s.c r.s.run p.g=none:=by
    cases j:bU r.s.c r.s.run p.g with
    | none=>rfl
    | some x=>
     obtain ⟨fl,hs⟩:=x
     refine absurd ?_ l
     unfold admR
     rw [j]
     unfold wH
     dsimp only
     rw [f]
     rfl
   cases d:dO r.s.c r.s.run p.g with
   | none=>
    show RCore s (XA r p _) rest/\(XA r p _).ev.length<=_
    cases lE r.s.c r.s.now r.s.run p.g with
    | none=>exact ⟨a,by show r.ev.length<=_;omega⟩
    | some n=>exact ⟨⟨a.c,a.now,a.nxt,a.hist,a.perm,a.sub,a.rn,fun e=>(by cases e),a.hs⟩,by show (r.ev++[_]).length<=_;simp⟩
   | some ids=>
    obtain ⟨_,m,y,w,_⟩:=sF b h i d
    obtain ⟨u,z⟩:=k (h.evic b m w)
    refine ⟨u,?_⟩
    have A:(fO r ids).ev.length=r.ev.length+ids.length:=(vW r.s.run ids r).2.2.2.2.2.2.2.2
    show (admR (fO r ids) p).1.ev.length<=_
    omega
def SF (r:Rd) (p:Pn):Prop:=(bB r p=r/\EP r p (r3S r 0))\/EP r p (r3S (bB r p) 1)
theorem aE9 {s:Sta} {r:Rd} {p:Pn} {rest:List Pn} (b:Base s) (h:RCore s r (p::rest)) (V:r.ev.length<=900000):SF r p/\RCore s (bB r p) rest/\(bB r p).ev.length<=r.ev.length+40:=by
 obtain ⟨B,K,g3⟩:=h.gangP b (h.sub p (Ax ..))
 have I:=h.few b
 have L:r.s.c.sm:=by rw [h.c];exact b.c
 have o:=lI r.s.c L r.s.run (h.sm b) p.g B K
 have hm:=aES r.s.now p.g r.start
 cases v:bU r.s.c r.s.run p.g with
 | some x=>
  rw [v] at o
  have z:=DB B v
  have m:=FM r p x.1 x.2 o_ o_ o_
  have k:=h.adm b (fl:=x.1) z
  have q:(uC r p x.1 x.2).ev.length=r.ev.length+1:=by show (r.ev++[_]).length=_;simp
  obtain ⟨d,ev,head,start⟩:=r
  dsimp only at v hm o
  have A:admR ⟨d,ev,head,start⟩ p=wH ⟨d,ev,head,start⟩ p (some x):=by unfold admR;rw [v]
  cases head with
  | false=>
   have i:bB ⟨d,ev,false,start⟩ p=uC ⟨d,ev,false,start⟩ p x.1 x.2:=by
    unfold bB
    rw [A]
    rfl
   rw [i]
   refine ⟨.inr ?_,k,by rw [q];exact Nat.add_le_add_left d_ _⟩
   rw [i]
   exact aL1 d ev start p x.1 x.2 _ o m
  | true=>
   cases J:bmB d.now p.g start with
   | true=>
    have i:bB ⟨d,ev,true,start⟩ p=uC ⟨d,ev,true,start⟩ p x.1 x.2:=by
     exact zqya33
    rw [J] at hm
    rw [i]
    refine ⟨.inr ?_,k,by rw [q];exact Nat.add_le_add_left d_ _⟩
    rw [i]
    exact aL0 d ev start p x.1 x.2 _ o hm m
   | false=>
    have i:bB ⟨d,ev,true,start⟩ p=⟨d,ev,true,start⟩:=by
     exact zqya33
    rw [J] at hm
    rw [i]
    exact ⟨.inl ⟨i,aLY d ev start p x o hm⟩,h.skip,Ik _ _⟩
 | none=>
  rw [v] at o
  have N:=fun ids=>sF b h (g:=p.g) v (ids:=ids)
  have l:=fun R=>LM r.s.c L r.s.run (h.sm b) o_ (h.once b) (fun x C=>(h.gangR b C).2.2) p.g B K R
  have j:=LR r.s.c L r.s.now r.s.run (h.sm b) p.g B K
  have D:=fun ids=>W9 r ids (h.sm b) (ML (h.once b))
  have G:=fun ids (a:ids.Nodup)=>h.evic b (ids:=ids) a
  have f:=h.skip
  have H:r.s.pend.length+r.s.run.length<=39:=I
  obtain ⟨d,ev,head,start⟩:=r
  dsimp only at v hm o H V
  have A:admR ⟨d,ev,head,start⟩ p=(⟨d,ev,head,start⟩,false):=by unfold admR;rw [v];rfl
  cases head with
  | true=>
   have i:bB ⟨d,ev,true,start⟩ p=⟨d,ev,true,start⟩:=by
    unfold bB
    rw [A]
    rfl
   rw [i]
   exact ⟨.inl ⟨i,aLZ d ev start p o⟩,f,Ik _ _⟩
  | false=>
   have i:bB ⟨d,ev,false,start⟩ p=aB1 ⟨d,ev,false,start⟩ p (dO d.c d.run p.g):=by
    unfold bB
    rw [A]
    rfl
   cases F:dO d.c d.run p.g with
   | none=>
    have t:=l none F
    rw [F] at i
    have i:bB ⟨d,ev,false,start⟩ p=XA ⟨d,ev,false,start⟩ p (lE d.c d.now d.run p.g):=i
    dsimp only at j
    cases hs:lE d.c d.now d.run p.g with
    | none=>
     rw [hs] at j i
     have i:bB ⟨d,ev,false,start⟩ p=⟨d,ev,false,start⟩:=i
     rw [i]
     exact ⟨.inl ⟨i,aLX d ev start p o t j⟩,f,Ik _ _⟩
    | some n=>
     rw [hs] at j i
     have i:bB ⟨d,ev,false,start⟩ p=⟨d,ev++[⟨4,p.g.id,n⟩],true,n⟩:=i
     rw [i]
     refine ⟨.inr ?_,⟨f.c,f.now,f.nxt,f.hist,f.perm,f.sub,f.rn,fun e=>(by cases e),f.hs⟩,by simp⟩
     rw [i]
     exact aLW d ev start p n o_ o t j
   | some ids=>
    have t:=l (some ids) F
    rw [F] at i
    obtain ⟨X,W,a3,Q,x,C⟩:=N ids F
    have hv:=D ids o_ X Q (by dsimp only;omega) (by dsimp only;omega)
    have k:=G ids W Q
    have w:=lI d.c L (aB d.run ids) (iU (h.sm b) ids) p.g B K
    dsimp only at C
    rw [C] at w
    have z:=DB B C
    obtain ⟨Z,_,_,_,f5,U,_,T,f9⟩:=vW d.run ids ⟨d,ev,false,start⟩
    have O:(fO ⟨d,ev,false,start⟩ ids).s.c=d.c:=Z
    have y:(fO ⟨d,ev,false,start⟩ ids).s.run=aB d.run ids:=rfl
    have S:(fO ⟨d,ev,false,start⟩ ids).s.pend.length=d.pend.length+ids.length:=T
    have P:(fO ⟨d,ev,false,start⟩ ids).ev.length=ev.length+ids.length:=f9
    have M:(fO ⟨d,ev,false,start⟩ ids).head=false:=U
    have Y:(aB d.run ids).length<=d.run.length:=Dw _ _
    have i:bB ⟨d,ev,false,start⟩ p=(admR (fO ⟨d,ev,false,start⟩ ids) p).1:=i
    generalize fO ⟨d,ev,false,start⟩ ids=R at *
    have e2:(admR R p).1=uC R p x.1 x.2:=by
     unfold admR
     rw [O,y,C]
     unfold wH
     dsimp only
     rw [M]
     rfl
    rw [e2] at i
    have m:=FM R p x.1 x.2 o_ o_ (by rw [y];omega)
    have u:=k.adm b (fl:=x.1) z
    have q:(uC R p x.1 x.2).ev.length=R.ev.length+1:=by show (R.ev++[_]).length=_;simp
    rw [i]
    refine ⟨.inr ?_,u,by rw [q,P];show ev.length+ids.length+1<=ev.length+40;omega⟩
    rw [i]
    rw [<-y] at w
    exact aLV d ev start p ids R _ x.1 x.2 o t hv w m
def AA (s:Sta) (r:Rd) (rest:List Pn):Prop:=RCore s r rest/\r.ev.length+100*rest.length<=900000
theorem wT {s:Sta} (b:Base s) (r:Rd) (p:Pn) (rest:List Pn) (h:AA s r (p::rest)):AA s (bB r p) rest:=by
 have c:=h.2
 rw [Bq] at c
 obtain ⟨a,h3⟩:=XZ b h.1
 exact ⟨a,by omega⟩
theorem W6 {s:Sta} (b:Base s) (r:Rd) (p:Pn) (rest:List Pn) (h:AA s r (p::rest)):A2 r p/\AA s (bB r p) rest:=by
 have a:=h.2
 rw [Bq] at a
 exact ⟨aB0 r p (aFB b h.1 o_),wT b r p rest h⟩
theorem aAQ {s:Sta} (b:Base s) (r:Rd) (p:Pn) (rest:List Pn) (h:AA s r (p::rest)):SF r p/\AA s (bB r p) rest:=by
 have c:=h.2
 rw [Bq] at c
 obtain ⟨h1,a,h3⟩:=aE9 b h.1 o_
 exact ⟨h1,a,by omega⟩
structure RunOK (s:Sta):Prop where
 base:Base s
 sm:StaSm' s
 ord:OrdOK s
 at':mH s.pend
 tot:Tot (ltP s) s.pend
theorem RunOK.start {s:Sta} (h:RunOK s):AA s ⟨s,[],false,0⟩ (oN s):=by
 have hp:(oN s).Perm s.pend:=dT _ _
 have c:s.pend.Nodup:=by
  have:=h.base.ids
  rw [Cc,Bu] at this
  have:=this.1
  unfold Ii at this
  rw [Dc] at this
  exact Jh (fun h e=>h (by rw [e])) this
 have hl:=h.base.few
 rw [Ay] at hl
 have a:=hp.length_eq
 refine ⟨⟨rfl,rfl,rfl,rfl,Fb _,fun p b=>hp.mem_iff.1 b,hp.symm.nodup c,fun _=>rfl,h.sm.run.2⟩,?_⟩
 show 0+_<=_
 omega
def iW (s:Sta):Rd:=(oN s).foldl bB ⟨s,[],false,0⟩
theorem vC {s:Sta} (b:Base s):∀ (L:List Pn) (r:Rd),AA s r L->AA s (L.foldl bB r) []
 | [],_,h=>h
 | p::L,r,h=>vC b L (bB r p) (wT b r p L h)
theorem RunOK.few {s:Sta} (h:RunOK s):s.pend.length<40:=by
 have:=h.base.few
 rw [Ay] at this
 omega
theorem aED (s:Sta) (h:RunOK s):aA Tryz.prog 44 [s.av] [] (.ret (.tup [(iW s).s.av,.slice 3 (evv (iW s).ev) .no])) []:=by
 have a:=h.few
 have hl:(oN s).length=s.pend.length:=(dT _ _).length_eq
 exact aGI (AA s) (W6 h.base) s h.sm (oN s) o_ (aBw s h.ord a h.at' h.tot) h.start
noncomputable abbrev aHr:Func:=Tryz.f23
abbrev aKz (L:List Pn) (i:Nat):List (Nat×AVal):=[(2,.ref 2 0),(4,.ref 0 0),(5,.slice 11 (pnv L) .no),(6,ii i)]
abbrev aKy (r:Rd):List AObj:=[r3O r 0,evT 0,SK]
set_option maxHeartbeats 1000000 in
theorem WT (b:Rd->List Pn->Prop) (j:∀ r p rest,b r (p::rest)->SF r p/\b (bB r p) rest) (L:List Pn) (n:L.length<=1000000) (R:Rd):∀ (m i:Nat) (r:Rd),i+m=L.length->(L.drop i).foldl bB r=R->b r (L.drop i)->
  To E aHr (.pure (.ret (.tup [R.s.av,.slice 3 (evv R.ev) .no]))) (.head (stk aHr 0) (aKz L i) (aKy r)):=by
 have g:(pnv L).length=L.length:=by simp
 intro m
 induction m with
 | zero=>
  intro i r k a _
  rw [Ae o_] at a
  have a:r=R:=a
  subst a
  refine gV ?_
  refine aF fun h=>?_
  refine cD hE 2 ?_;conv=>whnf
  refine To.permAt hE [0,1,2,3,4,5,6,7,9] [8] (by rfl) ?_;conv=>whnf
  refine aL ?_;conv=>whnf
  refine aL ?_
  exact zW
 | succ m l=>
  intro i r k a d
  have c:i<L.length:=o_
  rw [Ac c] at a d
  rw [Al] at a
  obtain ⟨h1,f⟩:=j _ _ _ d
  have get:=rR c
  generalize L[i]=p at a d h1 f get
  have next:=l (i+1) (bB r p) o_ a f
  rcases h1 with ⟨e,hl⟩ | hl
  .rw [e] at next
   refine gV ?_
   exact zW
  .exact zqya35
theorem aEI (s:Sta) (h:RunOK s):aA Tryz.prog 23 [s.av] [] (.ret (.tup [(iW s).s.av,.slice 3 (evv (iW s).ev) .no])) []:=by
 have a:=h.few
 have hl:(oN s).length=s.pend.length:=(dT _ _).length_eq
 have h1:=WT (AA s) (aAQ h.base) (oN s) o_ _ (oN s).length 0 ⟨s,[],false,0⟩ o_ rfl h.start
 have hs:=aAA s h.ord o_ h.at'
 rw [Bn] at h1
 have e:(oN s).foldl bB ⟨s,[],false,0⟩=iW s:=rfl
 rw [e] at h1
 generalize iW s=R at *
 generalize oN s=L at *
 refine c_ Tryz.f23 fun _=>?_
 repeat' first | (refine gN hE ?_;conv=>whnf) | refine .pure _ [] hs ?_ | exact rfl | refine aY ?_ | refine aN ?_ | refine aT fun h=>?_ | refine aF fun h=>?_ | refine ⟨fun h=>?_,fun h=>?_⟩ | refine aJ ?_ | refine ⟨_,rfl,?_⟩ | refine aD ?_ | fail
 refine To.begin 2 9 84 rfl rfl ?_
 refine To.part [2,4,5,6] [2,3,1] rfl rfl rfl ?_
 exact h1
def cU (s:Sta) (g:Gan):Sta×Int:=
 if fN s.c g≠0 then (s,fN s.c g) else
 if 0<=eJ g.id s.pend\/0<=aH (aV g.id) s.run 0 then (s,5) else
 if (bU s.c [] g).isNone=true then (s,6) else
 if 32<=s.pend.length+s.run.length then (s,8) else
 ({s with pend:=gT s.pend ⟨g,s.nxt,s.now⟩,nxt:=s.nxt+1},0)
def jX (l:List Rn) (t:Int):List Ev:=(l.filter fun x=>decide (cO x<=t)).map fun x=>⟨3,x.g.id,0⟩
def gB (s:Sta) (n:Int):Sta×List Ev×Int:=
 if n<1\/1048576<n then (s,[],1) else
 if 1099511627776-n<s.now then (s,[],8) else
 ({s with hist:=tkL s.hist (mW s.c s.run) n s.c.half,now:=s.now+n,run:=atL s.run (s.now+n)},jX s.run (s.now+n),0)
noncomputable abbrev aK8:Func:=Tryz.f24
abbrev nL (s:Sta):AObj:=.cells 31 s.cs
theorem aAx (s:Sta) (id:Int) (hl:s.run.length<=1048576) (r:Int):∀ (m i:Nat),i+m=s.run.length->aH (aV id) (s.run.drop i) i=r->
  To E aK8 (.pure (.ret (ii r))) (.head (stk aK8 0) [(1,ii id),(2,.ref 0 0),(5,ii i)] [nL s]):=by
 have e:(rav s.run).length=s.run.length:=by simp
 intro m
 induction m with
 | zero=>
  intro i f a
  exact zqya22
 | succ m d=>
  intro i f a
  have b:i<s.run.length:=o_
  rw [Ac b] at a
  have get:(rav s.run)[i]? =some s.run[i].av:=bN b
  generalize s.run[i]=x at a get
  unfold aH at a
  have d:=d (i+1) o_
  cases c:aV id x with
  | true=>
   rw [if_pos c] at a
   subst a
   unfold aV at c
   refine gV ?_
   exact zW
  | false=>
   rw [if_neg (by rw [c];decide)] at a
   have next:=d a
   unfold aV at c
   refine gV ?_
   exact zW
theorem H5 (s:Sta) (id:Int) (hl:s.run.length<=1048576):aA Tryz.prog 24 [s.av,ii id] [] (.ret (ii (aH (aV id) s.run 0))) []:=by
 have h:=aAx s id hl _ s.run.length 0 o_ rfl
 rw [Bn] at h
 generalize aH (aV id) s.run 0=r at *
 exact c_ Tryz.f24 fun _=>zW
theorem wQ (l:List Pn) (a:Int) (hl:l.length<=1000000):aA Tryz.prog 26 [.slice 11 (pnv l) .no,ii a] [] (.ret (ii (eJ a l))) []:=by
 have h:=Q2.findref_ok (l.map Pn.q) a
 rw [nR] at h
 exact h
theorem NJ {c:Con} {g:Gan} (h:fN c g=0):(0<=g.pods/\g.pods<=16)/\aQ g.need=true:=by
 unfold fN at h
 split at h
 .rename_i a
  unfold OK at a
  simp only [Ag,decide_eq_true_eq] at a
  exact ⟨⟨by omega,by omega⟩,a.2.1⟩
 .omega
set_option maxHeartbeats 2000000 in
theorem O3 (s:Sta) (g:Gan) (l:s.c.sm) (hp:s.pend.length<=1000000) (hl:s.run.length<=1000000) (x:s.nxt<=1099511627777) (p:0<=s.nxt):
  aA Tryz.prog 21 [s.av,g.av] [] (.ret (.tup [(cU s g).1.av,ii (cU s g).2])) []:=by
 have h1:=PZ s.c l g
 have w:=wQ s.pend g.id hp
 have h3:=H5 s g.id o_
 have o:(pnv s.pend).length=s.pend.length:=by simp
 have n:(rav s.run).length=s.run.length:=by simp
 unfold cU
 by_cases d:fN s.c g≠0
 .rw [if_pos d]
  have u:(fN s.c g !=0)=true:=by simpa using d
  generalize fN s.c g=e at *
  exact zqya9
 rw [if_neg d]
 have d:fN s.c g=0:=Ep.1 d
 obtain ⟨q,t⟩:=NJ d
 rw [d] at h1
 have u:((0:Int) !=0)=false:=by decide
 have h:=LS s.c l g q t
 generalize eJ g.id s.pend=a at *
 generalize aH (aV g.id) s.run 0=b at *
 by_cases i:0<=a\/0<=b
 .rw [if_pos i]
  by_cases m:0<=a
  .exact zqya9
  .have r:0<=b:=o_
   exact zqya9
 rw [if_neg i]
 have m:a<0:=o_
 have r:b<0:=o_
 cases k:(bU s.c [] g).isNone with
 | true=>
  rw [k] at h
  rw [if_pos rfl]
  exact zqya9
 | false=>
  rw [k] at h
  rw [if_neg d_]
  by_cases j:32<=s.pend.length+s.run.length
  .rw [if_pos j]
   exact zqya9
  .rw [if_neg j]
   have v:=LB s.pend ⟨g,s.nxt,s.now⟩ hp
   generalize gT s.pend ⟨g,s.nxt,s.now⟩=pq at *
   exact zqya9
theorem GY {x:Rn} {l:List Rn} {t:Int} (h:cO x<=t):jX (x::l) t=⟨3,x.g.id,0⟩::jX l t:=by
 unfold jX
 rw [Gv,if_pos (decide_eq_true h)]
 rfl
theorem GZ {x:Rn} {l:List Rn} {t:Int} (h:¬ cO x<=t):jX (x::l) t=jX l t:=by
 unfold jX
 rw [Gv,if_neg (by simpa using h)]
noncomputable abbrev aK3:Func:=Tryz.f22
set_option maxHeartbeats 1000000 in
theorem Z2 (s R:Sta) (hs:Sm s.run) (j:R={s with run:=atL s.run s.now}) (Q:List Ev):∀ (m i:Nat) (ev:List Ev),i+m=s.run.length->ev.length<=i->ev++jX (s.run.drop i) s.now=Q->
  To (Eo [7] []) aK3 (.pure (.ret (.tup [R.av,.slice 3 (evv Q) .no,ii 0]))) (.head (stk aK3 0) [(2,.ref 0 0),(4,.ref 1 0),(7,.slice 3 (evv ev) (.own 2 0)),(8,ii i)] [nL s,SK,evT 0]):=by
 have h:(rav s.run).length=s.run.length:=by simp
 have hl:=hs.1
 intro m
 induction m with
 | zero=>
  intro i ev l k a
  rw [Ae o_] at a
  have a:ev++[]=Q:=a
  rw [Bc] at a
  subst a
  have p:=aBd s.run hs s.now
  generalize atL s.run s.now=ra at *
  subst j
  refine gV ?_
  exact zW
 | succ m d=>
  intro i ev l k a
  have b:i<s.run.length:=o_
  rw [Ac b] at a
  have get:(rav s.run)[i]? =some s.run[i].av:=bN b
  generalize s.run[i]=x at a get
  have n:=AH x
  have o:(evv ev).length<=1048576:=by simp;omega
  by_cases e:cO x<=s.now
  .have c:jX (x::s.run.drop (i+1)) s.now=⟨3,x.g.id,0⟩::jX (s.run.drop (i+1)) s.now:=GY e
   rw [c] at a
   have next:=d (i+1) (ev++[⟨3,x.g.id,0⟩]) o_ q_ (by rw [Aj];exact a)
   have f:evv (ev++[⟨3,x.g.id,0⟩])=evv ev++[Ev.av ⟨3,x.g.id,0⟩]:=by simp
   rw [f] at next
   generalize cO x=t at *
   clear d a c f
   refine gV ?_
   exact zW
  .have c:jX (x::s.run.drop (i+1)) s.now=jX (s.run.drop (i+1)) s.now:=GZ e
   rw [c] at a
   have next:=d (i+1) ev o_ o_ a
   generalize cO x=t at *
   clear d a c
   refine gV ?_
   exact zW
set_option maxHeartbeats 1000000 in
theorem Z3 (s:Sta) (n:Int) (h:s.c.sm) (hs:Sm s.run) (q:LtF s.hist) (a:s.hist.length<=1048576) (p:s.c.half<=9223372036854775807) (m: -9223372036854775808<=s.now) (k:s.now<=1099511627776) (i: -9223372036854775808<=n/\n<=9223372036854775807):
  aA Tryz.prog 22 [s.av,ii n] [] (.ret (.tup [(gB s n).1.av,.slice 3 (evv (gB s n).2.1) .no,ii (gB s n).2.2])) []:=by
 unfold gB
 by_cases d:n<1\/1048576<n
 .rw [if_pos d]
  by_cases l:n<1
  .exact zqya7
  .have j:1048576<n:=o_
   exact zqya7
 rw [if_neg d]
 have l:1<=n:=o_
 have j:n<=1048576:=o_
 by_cases e:1099511627776-n<s.now
 .rw [if_pos e]
  exact zqya7
 .rw [if_neg e]
  have b:=TC s.c s.run
  have hsl:(mW s.c s.run).length<=1048576:=by
   have:=h.ns
   unfold mW ofL mG
   rw [jB]
   simp
   omega
  have h1:=PB s.c h s.run hs.1
  have r:=aAy s.hist (mW s.c s.run) q a b hsl n s.c.half o_ p
  have o:=Z2 {s with hist:=tkL s.hist (mW s.c s.run) n s.c.half,now:=s.now+n} {s with hist:=tkL s.hist (mW s.c s.run) n s.c.half,now:=s.now+n,run:=atL s.run (s.now+n)} hs rfl _ s.run.length 0 [] s_ s_ rfl
  rw [Bn] at o
  generalize tkL s.hist (mW s.c s.run) n s.c.half=th at *
  generalize mW s.c s.run=sh at *
  generalize jX s.run (s.now+n)=Q at *
  have t:[]++Q=Q:=rfl
  generalize atL s.run (s.now+n)=ra at *
  exact zqya7
def bQ (s:Sta) (x:Cmd):Sta×List Ev×Int:=
 if C8.chk x≠0 then (s,[],C8.chk x) else
 if x.k=1 then (if bC x.c≠0 then (s,[],bC x.c) else if 0<s.pend.length+s.run.length then (s,[],7) else ({s with c:=x.c,hist:=Ai x.c.ns.length 0},[],0)) else
 if x.k=2 then ((cU s x.g).1,[],(cU s x.g).2) else
 if x.k=5 then gB s x.n else
 if x.k=6 then ((iW s).s,(iW s).ev,0) else
 if 0<=aH (aV x.n) s.run 0 then ({s with run:=aB s.run [x.n]},[],0) else
 if x.k=3\/eJ x.n s.pend<0 then (s,[],4) else
 ({s with pend:=cS s.pend x.n},[],0)
abbrev apC (s:Sta) (x:Cmd) (R:Sta×List Ev×Int):Prop:=aA Tryz.prog 8 [s.av,x.av] [] (.ret (.tup [R.1.av,.slice 3 (evv R.2.1) .no,ii R.2.2])) []
theorem aG4 (s:Sta) (x:Cmd) (e:Int) (a:C8.chk x=e) (h:e≠0):apC s x (s,[],e):=by
 have h1:=C8.rcheck_any x e a
 have b:(e !=0)=true:=by simpa using h
 exact zqya4
theorem aLI (s:Sta) (x:Cmd) (b:C8.chk x=0) (a:x.k=2) (S:Sta) (e:Int) (d:aA Tryz.prog 21 [s.av,x.g.av] [] (.ret (.tup [S.av,ii e])) []):apC s x (S,[],e):=by
 exact zqya17
theorem aLH (s:Sta) (x:Cmd) (b:C8.chk x=0) (a:x.k=5) (S:Sta) (ev:List Ev) (e:Int) (d:aA Tryz.prog 22 [s.av,ii x.n] [] (.ret (.tup [S.av,.slice 3 (evv ev) .no,ii e])) []):apC s x (S,ev,e):=by
 exact zqya17
theorem aLG (s:Sta) (x:Cmd) (b:C8.chk x=0) (a:x.k=6) (S:Sta) (ev:List Ev) (d:aA Tryz.prog 23 [s.av] [] (.ret (.tup [S.av,.slice 3 (evv ev) .no])) []):apC s x (S,ev,0):=by
 exact zqya17
theorem aG2 (s:Sta) (x:Cmd) (d:C8.chk x=0) (b:x.k=3\/x.k=4) (hs:Sm s.run) (h:0<=aH (aV x.n) s.run 0):apC s x ({s with run:=aB s.run [x.n]},[],0):=by
 have h1:=C8.rcheck_any x 0 d
 have e:=H5 s x.n hs.1
 have h3:=mK s.run hs [x.n] s_
 generalize aH (aV x.n) s.run 0=a at *
 obtain ⟨k,c,g,n⟩:=x
 generalize aB s.run [n]=rn at *
 rcases b with b | b<;>dsimp only at b<;>subst b
 all_goals
  refine cT (E:=(Eo [87] [])) (fn:=Tryz.f8) (g:=.pure _) fun _=>?_
  exact zW
theorem aKf (s:Sta) (x:Cmd) (i:C8.chk x=0) (d:x.k=3\/x.k=4) (hs:Sm s.run) (hp:s.pend.length<=1000000) (h:¬ 0<=aH (aV x.n) s.run 0) (e:x.k=3\/eJ x.n s.pend<0):apC s x (s,[],4):=by
 have h1:=C8.rcheck_any x 0 i
 have l:=H5 s x.n hs.1
 have h3:=wQ s.pend x.n hp
 generalize aH (aV x.n) s.run 0=a at *
 generalize eJ x.n s.pend=b at *
 obtain ⟨k,c,g,n⟩:=x
 dsimp only at d e
 rcases d with rfl | rfl
 .exact zqya4
 .have j:b<0:=o_
  exact zqya4
theorem aG3 (s:Sta) (x:Cmd) (e:C8.chk x=0) (d:x.k=4) (hs:Sm s.run) (hp:s.pend.length<=1000000) (h:¬ 0<=aH (aV x.n) s.run 0) (i:¬ eJ x.n s.pend<0):apC s x ({s with pend:=cS s.pend x.n},[],0):=by
 have h1:=C8.rcheck_any x 0 e
 have l:=H5 s x.n hs.1
 have h3:=wQ s.pend x.n hp
 have j:=FK s.pend x.n hp
 generalize aH (aV x.n) s.run 0=a at *
 generalize eJ x.n s.pend=b at *
 generalize cS s.pend x.n=pq at *
 obtain ⟨k,c,g,n⟩:=x
 dsimp only at d
 subst d
 exact zqya4
theorem aKg (s:Sta) (x:Cmd) (i:C8.chk x=0) (a:x.k=1) (d:x.c.sm) (h:bC x.c≠0):apC s x (s,[],bC x.c):=by
 have h1:=C8.rcheck_any x 0 i
 have b:=wE x.c d
 obtain ⟨k,c,g,n⟩:=x
 dsimp only at a h b⊢
 generalize bC c=e at *
 subst a
 have j:(e !=0)=true:=by simpa using h
 exact zqya4
theorem aDO (s:Sta) (x:Cmd) (d:C8.chk x=0) (b:x.k=1) (j:x.c.sm) (h:bC x.c=0) (hp:s.pend.length<=1000000) (hl:s.run.length<=1000000) (l:0<s.pend.length+s.run.length):apC s x (s,[],7):=by
 have h1:=C8.rcheck_any x 0 d
 have a:=wE x.c j
 have i:(pnv s.pend).length=s.pend.length:=by simp
 have e:(rav s.run).length=s.run.length:=by simp
 obtain ⟨k,c,g,n⟩:=x
 dsimp only at b h a
 rw [h] at a
 subst b
 exact zqya4
theorem aDN (s:Sta) (x:Cmd) (m:C8.chk x=0) (j:x.k=1) (e:x.c.sm) (h:bC x.c=0) (hp:s.pend=[]) (hl:s.run=[]):apC s x ({s with c:=x.c,hist:=Ai x.c.ns.length 0},[],0):=by
 have h1:=C8.rcheck_any x 0 m
 have b:=wE x.c e
 have p:(pnv s.pend).length=0:=by rw [hp];rfl
 have o:(rav s.run).length=0:=by rw [hl];rfl
 obtain ⟨k,c,g,n⟩:=x
 dsimp only at j h b e⊢
 rw [h] at b
 subst j
 have q:=e.ns
 have a:(nav c.ns).length=c.ns.length:=by simp
 have l:(8:Int)*((nav c.ns).length:Int)<=281474976710656:=by rw [a];omega
 have i:(nav c.ns).length<=maxLen:=by rw [a];simp only [maxLen];omega
 have d:fv (Ai c.ns.length 0)=Ai (nav c.ns).length (.int .u64 0):=by rw [a];simp
 unfold apC Sta.av Sta.cs
 dsimp only
 rw [d]
 refine c_ Tryz.f8 fun _=>?_
 refine gV ?_
 refine .pure _ [] h1 ?_
 refine gV ?_
 refine Aa (fun h=>absurd h d_) (fun _=>?_)
 refine gV ?_
 refine Aa (fun _=>?_) (fun h=>by cases h)
 refine gV ?_
 refine .pure _ [] b ?_
 refine gV ?_
 refine Aa (fun h=>absurd h d_) (fun _=>?_)
 refine gV ?_
 refine aJ ?_
 refine gV ?_
 refine Aa (fun h=>absurd (of_decide_eq_true h) o_) (fun _=>?_)
 refine cD hE 2 ?_;conv=>whnf
 refine To.permT hE [0,1,2,3,4,5,7,9] [6,8,10] (by rfl) ?_;conv=>whnf
 refine aL ?_;conv=>whnf
 refine ⟨?_,?_,trivial⟩
 .conv=>whnf
  refine Ah (nav c.ns).length (Aa rfl ?_);conv=>whnf
  refine Aa (Aa rfl (Aa l i)) ?_;conv=>whnf
  refine aL ?_;conv=>whnf
  refine ⟨?_,trivial⟩;conv=>whnf
  exact zqya31
 .conv=>whnf
  refine aL ?_;conv=>whnf
  refine ⟨?_,trivial⟩;conv=>whnf
  refine Ah (nav c.ns).length (Aa rfl ?_);conv=>whnf
  refine Aa (Aa rfl (Aa l i)) ?_;conv=>whnf
  exact zqya31
structure StOK (s:Sta):Prop where
 c:s.c.sm
 run:RunOK s
 half:s.c.half<=9223372036854775807
 nxt:0<=s.nxt/\s.nxt<=1099511627777
theorem aHG {x:Cmd} (h:C8.chk x=0):1<=x.k/\x.k<=6:=by
 unfold C8.chk at h
 split at h
 .rename_i a
  simpa using a
 .omega
theorem HG (s:Sta) (x:Cmd) (h:StOK s) (t:x.k=1->x.c.sm) (r: -9223372036854775808<=x.n/\x.n<=9223372036854775807):apC s x (bQ s x):=by
 have d:=h.run.sm
 have m:=h.run.base.few
 rw [Ay,Ck] at m
 unfold bQ
 by_cases a:C8.chk x≠0
 .rw [if_pos a]
  exact aG4 s x _ rfl a
 rw [if_neg a]
 have a:C8.chk x=0:=Ep.1 a
 have u:=aHG a
 by_cases f:x.k=1
 .rw [if_pos f]
  have e:=t f
  by_cases b:bC x.c≠0
  .rw [if_pos b]
   exact aKg s x a f e b
  rw [if_neg b]
  have b:bC x.c=0:=Ep.1 b
  by_cases l:0<s.pend.length+s.run.length
  .rw [if_pos l]
   exact aDO s x a f e b o_ o_ l
  .rw [if_neg l]
   exact aDN s x a f e b (Bl.1 o_) (Bl.1 o_)
 rw [if_neg f]
 by_cases b:x.k=2
 .rw [if_pos b]
  exact aLI s x a b _ _ (O3 s x.g h.c o_ o_ h.nxt.2 h.nxt.1)
 rw [if_neg b]
 by_cases p:x.k=5
 .rw [if_pos p]
  exact aLH s x a p _ _ _ (Z3 s x.n h.c d.run h.run.ord.lt h.run.ord.hl h.half (by have:=h.run.ord.now;omega) h.run.ord.now.2 r)
 rw [if_neg p]
 by_cases q:x.k=6
 .rw [if_pos q]
  exact aLG s x a q _ _ (aEI s h.run)
 rw [if_neg q]
 have i:x.k=3\/x.k=4:=o_
 by_cases j:0<=aH (aV x.n) s.run 0
 .rw [if_pos j]
  exact aG2 s x a i d.run j
 rw [if_neg j]
 by_cases o:x.k=3\/eJ x.n s.pend<0
 .rw [if_pos o]
  exact aKf s x a i d.run o_ j o
 .rw [if_neg o]
  exact aG3 s x a o_ d.run o_ j o_
theorem nM (s:Sta) (h:StaSm' s):aA Tryz.prog 36 [s.av] [] (.ret s.av) []:=by
 have h1:=JS s.c.ns h.ns
 have b:=JT s.c.hs h.hs
 have h3:=RV s.pend h.pend
 have d:=RW s.hist h.hist
 have a:=aA.nil2 (by have h:=sZ s.run h.run [] s_;rw [dK] at h;exact h)
 exact c_ Tryz.f36 fun _=>zW
theorem aAb (s:Sta) (id:Int) (hl:s.run.length<=1048576):aA Tryz.prog 109 [s.av,ii id] [] (.ret (ii (aH (aV id) s.run 0))) []:=by
 have h:=C2 _ id (FI id) s.run hl
 generalize aH (aV id) s.run 0=r at *
 exact c_ Tryz.f109 fun _=>zW
theorem TA:aA Tryz.prog 34 [] [] (.ret (Sta.av ⟨⟨[],[],0,0⟩,0,1,[],[],[]⟩)) []:=by
 exact c_ Tryz.f34 fun _=>zW
theorem aER:aA Tryz.prog 6 [] [] (.ret (Sta.av ⟨⟨[],[],0,0⟩,0,1,[],[],[]⟩)) []:=by
 exact c_ Tryz.f6 fun _=>zW
abbrev aKq (s S:Sta) (g:Gan) (e:Int):Prop:=aA Tryz.prog 40 [.ref 0 0,g.av] [nL s] (.ret (ii e)) [nL S]
set_option maxHeartbeats 2000000 in
theorem aEt (s:Sta) (g:Gan) (r:s.c.sm) (hp:s.pend.length<=1000000) (hl:s.run.length<=1000000) (v:s.nxt<=1099511627777) (o:0<=s.nxt):aKq s (cU s g).1 g (cU s g).2:=by
 have h1:=aAl s.c g
 have u:=aBj s.pend g.id
 have h3:=aAb s g.id o_
 have n:(pnv s.pend).length=s.pend.length:=by simp
 have m:(rav s.run).length=s.run.length:=by simp
 unfold cU
 by_cases d:fN s.c g≠0
 .rw [if_pos d]
  have x:(fN s.c g !=0)=true:=by simpa using d
  generalize fN s.c g=e at *
  exact zqya3
 rw [if_neg d]
 have d:fN s.c g=0:=Ep.1 d
 obtain ⟨p,w⟩:=NJ d
 rw [d] at h1
 have h:=aBQ s.c r g p
 generalize eJ g.id s.pend=a at *
 generalize aH (aV g.id) s.run 0=b at *
 by_cases i:0<=a\/0<=b
 .rw [if_pos i]
  by_cases l:0<=a
  .exact zqya3
  .have q:0<=b:=o_
   exact zqya3
 rw [if_neg i]
 have l:a<0:=o_
 have q:b<0:=o_
 cases k:(bU s.c [] g).isNone with
 | true=>
  rw [k] at h
  rw [if_pos rfl]
  exact zqya3
 | false=>
  rw [k] at h
  rw [if_neg d_]
  by_cases j:32<=s.pend.length+s.run.length
  .rw [if_pos j]
   exact zqya3
  .rw [if_neg j]
   have t:=II s.pend ⟨g,s.nxt,s.now⟩ hp
   generalize gT s.pend ⟨g,s.nxt,s.now⟩=pq at *
   exact zqya3
theorem aGX (n a b:Int) (r:Bool) (d:(decide (a<=n)&&decide (n<=b))=r):aA Tryz.prog 113 [ii n,ii a,ii b] [] (.ret (.bool r)) []:=by
 by_cases h1:a<=n
 .by_cases c:n<=b
  .have e:r=true:=by rw [<-d,decide_eq_true h1,decide_eq_true c];rfl
   subst e
   refine c_ Tryz.f113 fun _=>?_
   repeat' first | (refine gN hE ?_;conv=>whnf) | exact rfl | refine aY ?_ | refine aN ?_ | refine aT fun h=>?_ | refine aF fun h=>?_ | refine ⟨fun h=>?_,fun h=>?_⟩ | refine aJ ?_ | refine ⟨_,rfl,?_⟩ | refine aD ?_ | fail
   all_goals exact congrArg (fun b=>Res.ret (AVal.bool b)) (decide_eq_true c)
  .have e:r=false:=by rw [<-d,decide_eq_true h1,decide_eq_false c];rfl
   subst e
   refine c_ Tryz.f113 fun _=>?_
   repeat' first | (refine gN hE ?_;conv=>whnf) | exact rfl | refine aY ?_ | refine aN ?_ | refine aT fun h=>?_ | refine aF fun h=>?_ | refine ⟨fun h=>?_,fun h=>?_⟩ | refine aJ ?_ | refine ⟨_,rfl,?_⟩ | refine aD ?_ | fail
   all_goals exact congrArg (fun b=>Res.ret (AVal.bool b)) (decide_eq_false c)
 .have e:r=false:=by rw [<-d,decide_eq_false h1];rfl
  subst e
  exact c_ Tryz.f113 fun _=>zW
noncomputable abbrev aLj:Func:=Tryz.f43
abbrev aL6 (R:Sta) (Q:List Ev) (e:Int):Goal:=.full 1 (.ret (.tup [.slice 3 (evv Q) .no,ii e])) [nL R]
set_option maxHeartbeats 1000000 in
theorem aB8 (s R:Sta) (hs:Sm s.run) (h:R={s with run:=atL s.run s.now}) (Q:List Ev):∀ (m i:Nat) (ev:List Ev),i+m=s.run.length->ev.length<=i->ev++jX (s.run.drop i) s.now=Q->
  To (Eo [6] []) aLj (aL6 R Q 0) (.head (stk aLj 0) [(0,.ref 0 0),(6,.slice 3 (evv ev) (.own 1 0)),(55,.slice 14 (rav s.run) .no),(56,.int .i64 ((rav s.run).length:Nat)),(57,ii i)] [nL s,evT 0]):=by
 have f:(rav s.run).length=s.run.length:=by simp
 have hl:=hs.1
 intro m
 induction m with
 | zero=>
  intro i ev k j a
  rw [Ae o_] at a
  have a:ev++[]=Q:=a
  rw [Bc] at a
  subst a
  have o:=aDK s.run hs s.now
  generalize atL s.run s.now=ra at *
  subst h
  refine gV ?_
  exact zW
 | succ m c=>
  intro i ev k j a
  have b:i<s.run.length:=o_
  rw [Ac b] at a
  have get:(rav s.run)[i]? =some s.run[i].av:=bN b
  generalize s.run[i]=x at a get
  have l:=JE x
  have n:(evv ev).length<=1048576:=by simp;omega
  by_cases d:cO x<=s.now
  .rw [GY d] at a
   have next:=c (i+1) (ev++[⟨3,x.g.id,0⟩]) o_ q_ (by rw [Aj];exact a)
   have e:evv (ev++[⟨3,x.g.id,0⟩])=evv ev++[Ev.av ⟨3,x.g.id,0⟩]:=by simp
   rw [e] at next
   generalize cO x=t at *
   clear c a e
   refine gV ?_
   exact zW
  .rw [GZ d] at a
   have next:=c (i+1) ev o_ o_ a
   generalize cO x=t at *
   clear c a
   refine gV ?_
   exact zW
set_option maxHeartbeats 1000000 in
theorem aB7 (s:Sta) (n:Int) (k:s.c.sm) (hs:Sm s.run) (u:LtF s.hist) (b:s.hist.length<=1048576) (t:s.c.half<=9223372036854775807) (p:0<=s.now) (m:s.now<=1099511627776):
  ((gB s n).2.2≠0->aA Tryz.prog 43 [.ref 0 0,ii n] [nL s] (.ret (.tup [.slice 3 [] .nil,ii (gB s n).2.2])) [nL (gB s n).1])/\((gB s n).2.2=0->aA Tryz.prog 43 [.ref 0 0,ii n] [nL s] (.ret (.tup [.slice 3 (evv (gB s n).2.1) .no,ii 0])) [nL (gB s n).1]):=by
 have i:=aGX n 1 1048576 _ rfl
 unfold gB
 by_cases a:n<1\/1048576<n
 .rw [if_pos a]
  have e:(decide (1<=n)&&decide (n<=1048576))=false:=by
   rcases a with q | q
   .rw [decide_eq_false o_];rfl
   .rw [decide_eq_false (show ¬ n<=1048576 by omega),Bt]
  rw [e] at i
  refine ⟨fun _=>?_,fun h=>by cases h⟩
  exact zqya16
 rw [if_neg a]
 have o:1<=n:=o_
 have l:n<=1048576:=o_
 rw [decide_eq_true o,decide_eq_true l] at i
 by_cases j:1099511627776-n<s.now
 .rw [if_pos j]
  refine ⟨fun _=>?_,fun h=>by cases h⟩
  exact zqya16
 .rw [if_neg j]
  refine ⟨fun h=>absurd rfl h,fun _=>?_⟩
  have d:=TC s.c s.run
  have hsl:(mW s.c s.run).length<=1048576:=by
   have:=k.ns
   unfold mW ofL mG
   rw [jB]
   simp
   omega
  have h1:=WN s.c k s.run hs.1
  have v:=aEm s.hist (mW s.c s.run) u b d hsl n s.c.half o_ t
  have r:=aB8 {s with hist:=tkL s.hist (mW s.c s.run) n s.c.half,now:=s.now+n} {s with hist:=tkL s.hist (mW s.c s.run) n s.c.half,now:=s.now+n,run:=atL s.run (s.now+n)} hs rfl _ s.run.length 0 [] s_ s_ rfl
  rw [Bn] at r
  generalize tkL s.hist (mW s.c s.run) n s.c.half=th at *
  generalize mW s.c s.run=sh at *
  generalize jX s.run (s.now+n)=Q at *
  generalize atL s.run (s.now+n)=ra at *
  exact zqya16
abbrev VK (s S:Sta) (c:Con) (e:Int):Prop:=aA Tryz.prog 39 [.ref 0 0,c.av] [nL s] (.ret (ii e)) [nL S]
theorem aDk (s:Sta) (c:Con) (a:c.sm) (h:bC c≠0):VK s s c (bC c):=by
 have h1:=xB c a
 generalize bC c=e at *
 have b:(e !=0)=true:=by simpa using h
 exact zqya28
theorem YZ (s:Sta) (c:Con) (b:c.sm) (h:bC c=0) (hp:s.pend.length<=1000000) (hl:s.run.length<=1000000) (e:0<s.pend.length+s.run.length):VK s s c 7:=by
 have h1:=xB c b
 rw [h] at h1
 have d:(pnv s.pend).length=s.pend.length:=by simp
 have a:(rav s.run).length=s.run.length:=by simp
 exact zqya28
theorem ZK (c:Con):SL c=Ai c.ns.length 0:=by
 unfold SL
 have h:∀ (l:List Nod) (i:Nat),cP (fun _ _=>0) l i=Ai l.length 0:=by
  intro l
  induction l with
  | nil=>intro i;rfl
  | cons x l a=>intro i;unfold cP;rw [a];rfl
 exact h _ 0
set_option maxHeartbeats 1000000 in
theorem JP (s:Sta) (c:Con) (a:c.sm) (h:bC c=0) (hp:s.pend=[]) (hl:s.run=[]):VK s {s with c:=c,hist:=Ai c.ns.length 0} c 0:=by
 have h1:=xB c a
 rw [h] at h1
 have j:(pnv s.pend).length=0:=by rw [hp];rfl
 have d:(rav s.run).length=0:=by rw [hl];rfl
 have k:=a.ns
 have i:=a.hs
 have e:=JS c.ns o_
 have h3:=JT c.hs o_
 have b:=aD2 c a
 rw [ZK] at b
 generalize Ai c.ns.length 0=z at *
 refine cT (E:=(Er [] [24,38])) (fn:=Tryz.f39) (g:=.full 1 _ _) fun _=>?_
 repeat' first | (refine gN (hEr [] [24,38]) ?_;conv=>whnf) | refine .pure _ [] h1 ?_ | refine .pure _ [] e ?_ | exact rfl | refine aY ?_ | refine aN ?_ | refine aT fun h=>?_ | refine aF fun h=>?_ | refine ⟨fun h=>?_,fun h=>?_⟩ | refine aJ ?_ | refine ⟨_,rfl,?_⟩ | refine aD ?_ | fail
 refine .pure _ [] h3 ?_
 refine cD (hEr [] [24,38]) 27 ?_;conv=>whnf
 refine To.permAt (hEr [] [24,38]) [0,1,2,3,4,5,6,7,8] [9,10,11,12,13] (by rfl) ?_;conv=>whnf
 refine aL ?_;conv=>whnf;conv=>whnf
 refine aL ?_;conv=>whnf;conv=>whnf
 refine aL ?_;conv=>whnf;conv=>whnf
 refine aL ?_;conv=>whnf;conv=>whnf
 refine aL ?_;conv=>whnf;conv=>whnf
 refine aL ?_;conv=>whnf
 exact zW
abbrev ofC (x:Cmd) (v:AVal):Prop:=aA Tryz.prog 38 [x.av] [] (.ret v) []
theorem aL5 (x:Cmd) (a:x.k=1):ofC x (.iface 89 (.agg x.c.cs)):=by
 exact zqya2
theorem aL4 (x:Cmd) (a:x.k=2):ofC x (.iface 93 (.agg x.g.cs)):=by
 exact zqya2
theorem aKJ (x:Cmd) (a:x.k=3):ofC x (.iface 96 (.agg [ii x.n])):=by
 exact zqya2
theorem aIZ (x:Cmd) (a:x.k=4):ofC x (.iface 98 (.agg [ii x.n])):=by
 exact zqya2
theorem aL3 (x:Cmd) (a:x.k=5):ofC x (.iface 100 (.agg [ii x.n])):=by
 exact zqya2
theorem aL2 (x:Cmd) (a:x.k=6):ofC x (.iface 104 (.agg [])):=by
 exact zqya2
abbrev pO (s:Sta) (x:Cmd) (R:Sta×List Ev×Int):Prop:=aA Tryz.prog 13 [s.av,x.av] [] (.ret (.tup [R.1.av,.slice 3 (evv R.2.1) .no,ii R.2.2])) []
theorem aEC (s:Sta) (hs:StaSm' s) (x:Cmd) (e:Int) (a:C8.chk x=e) (h:e≠0):pO s x (s,[],e):=by
 have b:=nM s hs
 have h1:=C8.check_any x e a
 have c:(e !=0)=true:=by simpa using h
 exact zqya37
set_option maxHeartbeats 1000000 in
theorem aKx (s:Sta) (hs:StaSm' s) (x:Cmd) (j:C8.chk x=0) (l:x.k=2) (S:Sta) (e:Int) (i:e≠0->S=s) (b:aKq s S x.g e):pO s x (S,[],e):=by
 have c:=nM s hs
 have h1:=C8.check_any x 0 j
 have d:=aL4 x l
 by_cases a:e=0
 .subst a
  refine c_ Tryz.f13 fun _=>?_
  repeat' first | (refine gN hE ?_;conv=>whnf) | refine .pure _ [] c ?_ | refine .pure _ [] h1 ?_ | refine .pure _ [] d ?_ | refine .eff [] [4] _ _ rfl b ?_ | exact rfl | refine aY ?_ | refine aN ?_ | refine aT fun h=>?_ | refine aF fun h=>?_ | refine ⟨fun h=>?_,fun h=>?_⟩ | refine aJ ?_ | refine ⟨_,rfl,?_⟩ | refine aD ?_ | fail
 .have m:(e !=0)=true:=by simpa using a
  rw [i a] at b⊢
  refine c_ Tryz.f13 fun _=>?_
  repeat' first | (refine gN hE ?_;conv=>whnf) | refine .pure _ [] c ?_ | refine .pure _ [] h1 ?_ | refine .pure _ [] d ?_ | refine .eff [] [4] _ _ rfl b ?_ | refine Aa (fun _=>?_) (fun h=>absurd (m.symm.trans h) d_) | exact rfl | refine aY ?_ | refine aN ?_ | refine aT fun h=>?_ | refine aF fun h=>?_ | refine ⟨fun h=>?_,fun h=>?_⟩ | refine aJ ?_ | refine ⟨_,rfl,?_⟩ | refine aD ?_ | fail
set_option maxHeartbeats 1000000 in
theorem aKu (s:Sta) (hs:StaSm' s) (x:Cmd) (a:C8.chk x=0) (b:x.k=6) (S:Sta) (ev:List Ev) (c:aA Tryz.prog 44 [s.av] [] (.ret (.tup [S.av,.slice 3 (evv ev) .no])) []):pO s x (S,ev,0):=by
 have d:=nM s hs
 have h1:=C8.check_any x 0 a
 have e:=aL2 x b
 exact zqya37
set_option maxHeartbeats 1000000 in
theorem aKv (s:Sta) (hs:StaSm' s) (x:Cmd) (j:C8.chk x=0) (l:x.k=5) (S:Sta) (ev:List Ev) (e:Int) (i:e≠0->S=s/\ev=[])
  (b:(e≠0->aA Tryz.prog 43 [.ref 0 0,ii x.n] [nL s] (.ret (.tup [.slice 3 [] .nil,ii e])) [nL S])/\(e=0->aA Tryz.prog 43 [.ref 0 0,ii x.n] [nL s] (.ret (.tup [.slice 3 (evv ev) .no,ii 0])) [nL S])):pO s x (S,ev,e):=by
 have c:=nM s hs
 have h1:=C8.check_any x 0 j
 have d:=aL3 x l
 by_cases a:e=0
 .have h3:=b.2 a
  subst a
  refine c_ Tryz.f13 fun _=>?_
  repeat' first | (refine gN hE ?_;conv=>whnf) | refine .pure _ [] c ?_ | refine .pure _ [] h1 ?_ | refine .pure _ [] d ?_ | refine .eff [] [4] _ _ rfl h3 ?_ | exact rfl | refine aY ?_ | refine aN ?_ | refine aT fun h=>?_ | refine aF fun h=>?_ | refine ⟨fun h=>?_,fun h=>?_⟩ | refine aJ ?_ | refine ⟨_,rfl,?_⟩ | refine aD ?_ | fail
 .have m:(e !=0)=true:=by simpa using a
  have h3:=b.1 a
  obtain ⟨rfl,rfl⟩:=i a
  refine c_ Tryz.f13 fun _=>?_
  repeat' first | (refine gN hE ?_;conv=>whnf) | refine .pure _ [] c ?_ | refine .pure _ [] h1 ?_ | refine .pure _ [] d ?_ | refine .eff [] [4] _ _ rfl h3 ?_ | refine Aa (fun _=>?_) (fun h=>absurd (m.symm.trans h) d_) | exact rfl | refine aY ?_ | refine aN ?_ | refine aT fun h=>?_ | refine aF fun h=>?_ | refine ⟨fun h=>?_,fun h=>?_⟩ | refine aJ ?_ | refine ⟨_,rfl,?_⟩ | refine aD ?_ | fail
set_option maxHeartbeats 1000000 in
theorem aAn (s:Sta) (hs:StaSm' s) (x:Cmd) (l:C8.chk x=0) (m:x.k=1) (S:Sta) (e:Int) (j:e≠0->S=s) (b:VK s S x.c e):pO s x (S,[],e):=by
 have d:=nM s hs
 have h1:=C8.check_any x 0 l
 have i:=aL5 x m
 by_cases a:e=0
 .subst a
  refine c_ Tryz.f13 fun _=>?_
  repeat' first | (refine gN hE ?_;conv=>whnf) | refine .pure _ [] d ?_ | refine .pure _ [] h1 ?_ | refine .pure _ [] i ?_ | refine .eff [] [4] _ _ rfl b ?_ | exact rfl | refine aY ?_ | refine aN ?_ | refine aT fun h=>?_ | refine aF fun h=>?_ | refine ⟨fun h=>?_,fun h=>?_⟩ | refine aJ ?_ | refine ⟨_,rfl,?_⟩ | refine aD ?_ | fail
 .have n:(e !=0)=true:=by simpa using a
  rw [j a] at b⊢
  refine c_ Tryz.f13 fun _=>?_
  repeat' first | (refine gN hE ?_;conv=>whnf) | refine .pure _ [] d ?_ | refine .pure _ [] h1 ?_ | refine .pure _ [] i ?_ | refine .eff [] [4] _ _ rfl b ?_ | refine Aa (fun _=>?_) (fun h=>absurd (n.symm.trans h) d_) | exact rfl | refine aY ?_ | refine aN ?_ | refine aT fun h=>?_ | refine aF fun h=>?_ | refine ⟨fun h=>?_,fun h=>?_⟩ | refine aJ ?_ | refine ⟨_,rfl,?_⟩ | refine aD ?_ | fail
theorem QO (n:Nat) (id:Int) (e:∀ x:Rn,aA Tryz.prog n [x.av,.ptr [ii id]] [] (.ret (.bool (aV id x))) []) (l:List Rn) (hl:l.length<=1048576) (r:Int):∀ (m i:Nat),i+m=l.length->aH (aV id) (l.drop i) i=r->
  To E GW (.full 1 (.ret (ii r)) (wY l)) (.head (stk GW 0) [(0,.row 0 0),(1,idF n id),(7,.int .i64 ((rav l).length:Nat)),(8,ii i)] (wY l)):=by
 have f:(rav l).length=l.length:=by simp
 intro m
 induction m with
 | zero=>
  intro i h a
  exact zqya22
 | succ m d=>
  intro i h a
  have b:i<l.length:=o_
  rw [Ac b] at a
  have get:(rav l)[i]? =some l[i].av:=bN b
  generalize l[i]=x at a get
  unfold aH at a
  have g:=e x
  have d:=d (i+1) o_
  cases c:aV id x with
  | true=>
   exact zqya38
  | false=>
   exact zqya30
theorem aCk (n:Nat) (id:Int) (a:∀ x:Rn,aA Tryz.prog n [x.av,.ptr [ii id]] [] (.ret (.bool (aV id x))) []) (l:List Rn) (hl:l.length<=1048576):aA Tryz.prog 173 [.row 0 0,idF n id] (wY l) (.ret (ii (aH (aV id) l 0))) (wY l):=by
 have h:=QO n id a l hl _ l.length 0 o_ rfl
 rw [Bn] at h
 generalize aH (aV id) l 0=r at *
 refine cT (E:=E) (fn:=Tryz.f173) (g:=.full 1 _ _) fun _=>?_
 exact zW
theorem FB (s:Sta) (id:Int) (hl:s.run.length<=1048576):aA Tryz.prog 109 [s.avR 0 0,ii id] (wY s.run) (.ret (ii (aH (aV id) s.run 0))) (wY s.run):=by
 have h:=aCk _ id (FI id) s.run hl
 generalize aH (aV id) s.run 0=r at *
 refine cT (E:=E) (fn:=Tryz.f109) (g:=.full 1 _ _) fun _=>?_
 repeat' first | (refine gN hE ?_;conv=>whnf) | refine .eff [2] [0] _ _ rfl h ?_ | exact rfl | refine aY ?_ | refine aN ?_ | refine aT fun h=>?_ | refine aF fun h=>?_ | refine ⟨fun h=>?_,fun h=>?_⟩ | refine aJ ?_ | refine ⟨_,rfl,?_⟩ | refine aD ?_ | fail
 refine ⟨[],[0],⟨rfl,rfl⟩,rfl,rfl⟩
abbrev A3:AVal:=.agg [ii 0,ii 0,ii 0,ii 0,ii 0,ii 0,ii 0,ii 0,ii 0,ii 0,ii 0,ii 0,ii 0,.slice 1 [] .no]
theorem PW (xs:List Rn) (i:Nat) (d:i<xs.length) (e:xs.length<=1000000):aA Tryz.prog 111 [.row 0 0,.int .i64 i,.int .i64 ((i:Int)+1)] (wY xs)
  (.ret (.sub 0 0 0 (xs.length-1) 14)) [.row 0 14 127 (rav (xs.eraseIdx i)++[A3])]:=by
 refine cT (E:=E) (fn:=Tryz.f111) (g:=.full 1 _ _) fun _=>?_
 refine gV ?_
 refine ⟨i,rfl,?_⟩
 refine gV ?_
 refine ⟨i+1,by push_cast;rfl,?_⟩
 refine gV ?_
 refine ⟨xs.length,by simp,?_⟩
 refine gV ?_
 refine ⟨⟨⟨by omega,by omega⟩,by simp⟩,?_⟩
 refine gV ?_
 refine ⟨fun h=>?_,fun h=>?_⟩
 .simp at h
  omega
 .refine gV ?_
  refine ⟨i,rfl,?_⟩
  refine gV ?_
  refine ⟨by simp;omega,?_⟩
  refine gV ?_
  refine ⟨i+1,by push_cast;rfl,?_⟩
  refine gV ?_
  refine ⟨by simp;omega,?_⟩
  refine gV ?_
  have a:(rav xs).length=xs.length:=by simp
  have b:(Et ((rav xs).length-(i+1)) (Fp (i+1) (rav xs))).length=xs.length-(i+1):=by simp
  rw [b,a]
  refine ⟨by omega,?_⟩
  refine gV ?_
  refine ⟨xs.length-1,by omega,?_⟩
  refine gV ?_
  refine ⟨xs.length,rfl,?_⟩
  refine gV ?_
  refine ⟨by simp;omega,?_⟩
  refine gV ?_
  refine ⟨[],[0],⟨rfl,rfl⟩,?_⟩;conv=>whnf
  refine ⟨?_,?_⟩
  .show Res.ret (.sub 0 0 0 (i+(xs.length-(i+1))) 14)=_
   rw [show i+(xs.length-(i+1))=xs.length-1 from by omega]
  .have h:=Q2.del_list (rav xs) i (by rw [a];exact d) A3
   rw [a] at h
   have c:(rav xs).eraseIdx i=rav (xs.eraseIdx i):=by simp only [rav,Ey,Cc,Ht,Hu]
   rw [c] at h
   exact congrArg (fun l=>[AObj.row 0 14 127 l]) h
abbrev aKr (s:Sta) (run:AVal):AObj:=.cells 31 [.slice 11 (nav s.c.ns) .no,.slice 6 (hav s.c.hs) .no,ii s.c.half,ii s.c.age,ii s.now,ii s.nxt,.slice 11 (pnv s.pend) .no,run,.slice 1 (fv s.hist) .no]
abbrev aIa (s:Sta):List AObj:=[aKr s (.row 1 0),.row 0 14 127 (rav s.run)]
theorem S8 (s:Sta) (id:Int) (hl:s.run.length<=1000000) (h:¬ 0<=aH (aV id) s.run 0):aA Tryz.prog 41 [.ref 0 0,ii id] (aIa s) (.ret (ii 4)) (aIa s):=by
 have h1:=FB s id o_
 generalize aH (aV id) s.run 0=a at *
 exact zqya34
theorem S7 (s:Sta) (id:Int) (i:Nat) (hl:s.run.length<=1000000) (a:i<s.run.length) (h:aH (aV id) s.run 0=(i:Int)):aA Tryz.prog 41 [.ref 0 0,ii id] (aIa s) (.ret (ii 0)) [aKr s (.sub 1 0 0 (s.run.length-1) 14),.row 0 14 127 (rav (s.run.eraseIdx i)++[A3])]:=by
 have h1:=FB s id o_
 have b:=PW s.run i a hl
 rw [h] at h1
 generalize s.run.length-1=q at *
 generalize rav (s.run.eraseIdx i)++[A3]=K at *
 exact zqya34
set_option maxHeartbeats 1000000 in
theorem aIm (s:Sta) (hs:StaSm' s) (x:Cmd) (d:C8.chk x=0) (e:x.k=3) (hl:s.run.length<=1000000) (h:¬ 0<=aH (aV x.n) s.run 0):pO s x (s,[],4):=by
 have b:=AE s hs
 have h1:=C8.check_any x 0 d
 have c:=aKJ x e
 have a:=S8 s x.n hl h
 refine c_ Tryz.f13 fun _=>?_
 repeat' first | (refine gN hE ?_;conv=>whnf) | refine .pure _ _ b ?_ | refine .pure _ [] h1 ?_ | refine .pure _ [] c ?_ | refine .eff [] [6,5] _ _ rfl a ?_ | exact rfl | refine aY ?_ | refine aN ?_ | refine aT fun h=>?_ | refine aF fun h=>?_ | refine ⟨fun h=>?_,fun h=>?_⟩ | refine aJ ?_ | refine ⟨_,rfl,?_⟩ | refine aD ?_ | fail
theorem aDi (l:List Rn) (i:Nat) (a:i<l.length):((rav (l.eraseIdx i)++[A3]).drop 0).take (l.length-1)=rav (l.eraseIdx i):=by
 have h:(rav (l.eraseIdx i)).length=l.length-1:=by simp [Ke,a]
 rw [Bn,<-h,List.take_left']
 rfl
set_option maxHeartbeats 1000000 in
theorem aKw (s:Sta) (hs:StaSm' s) (x:Cmd) (c:C8.chk x=0) (j:x.k=3) (hl:s.run.length<=1000000) (i:Nat) (a:i<s.run.length) (h:aH (aV x.n) s.run 0=(i:Int)):pO s x ({s with run:=s.run.eraseIdx i},[],0):=by
 have e:=AE s hs
 have h1:=C8.check_any x 0 c
 have l:=aKJ x j
 have d:=S7 s x.n i hl a h
 have b:=aDi s.run i a
 unfold pO Sta.av Sta.cs
 dsimp only
 rw [<-b]
 generalize s.run.length-1=q at *
 generalize rav (s.run.eraseIdx i)++[A3]=K at *
 clear b
 refine c_ Tryz.f13 fun _=>?_
 repeat' first | (refine gN hE ?_;conv=>whnf) | refine .pure _ _ e ?_ | refine .pure _ [] h1 ?_ | refine .pure _ [] l ?_ | refine .eff [] [6,5] _ _ rfl d ?_ | exact rfl | refine aY ?_ | refine aN ?_ | refine aT fun h=>?_ | refine aF fun h=>?_ | refine ⟨fun h=>?_,fun h=>?_⟩ | refine aJ ?_ | refine ⟨_,rfl,?_⟩ | refine aD ?_ | fail
set_option maxHeartbeats 1000000 in
theorem aIj (s:Sta) (hs:StaSm' s) (x:Cmd) (b:C8.chk x=0) (c:x.k=4) (hp:s.pend.length<=1000000) (h:¬ eJ x.n s.pend<0):pO s x ({s with pend:=cS s.pend x.n},[],0):=by
 have d:=nM s hs
 have h1:=C8.check_any x 0 b
 have e:=aIZ x c
 have a:=qJ s.pend x.n hp
 rw [decide_eq_false h] at a
 generalize cS s.pend x.n=pq at *
 exact zqya37
theorem KR {l:List Pn} {a:Int} (h:eJ a l<0):cS l a=l:=by unfold cS;rw [if_pos h]
set_option maxHeartbeats 1000000 in
theorem aIl (s:Sta) (hs:StaSm' s) (x:Cmd) (i:C8.chk x=0) (j:x.k=4) (hp:s.pend.length<=1000000) (hl:s.run.length<=1000000) (h:eJ x.n s.pend<0) (e:¬ 0<=aH (aV x.n) s.run 0):pO s x (s,[],4):=by
 have c:=AE s hs
 have h1:=C8.check_any x 0 i
 have d:=aIZ x j
 have a:=qJ s.pend x.n hp
 rw [decide_eq_true h,KR h] at a
 have b:=S8 s x.n hl e
 refine c_ Tryz.f13 fun _=>?_
 repeat' first | (refine gN hE ?_;conv=>whnf) | refine .pure _ _ c ?_ | refine .pure _ [] h1 ?_ | refine .pure _ [] d ?_ | refine .pure _ [] a ?_ | refine .eff [] [6,5] _ _ rfl b ?_ | exact rfl | refine aY ?_ | refine aN ?_ | refine aT fun h=>?_ | refine aF fun h=>?_ | refine ⟨fun h=>?_,fun h=>?_⟩ | refine aJ ?_ | refine ⟨_,rfl,?_⟩ | refine aD ?_ | fail
set_option maxHeartbeats 1000000 in
theorem aIk (s:Sta) (hs:StaSm' s) (x:Cmd) (d:C8.chk x=0) (l:x.k=4) (hp:s.pend.length<=1000000) (hl:s.run.length<=1000000) (h:eJ x.n s.pend<0) (i:Nat) (b:i<s.run.length) (o:aH (aV x.n) s.run 0=(i:Int)):pO s x ({s with run:=s.run.eraseIdx i},[],0):=by
 have j:=AE s hs
 have h1:=C8.check_any x 0 d
 have m:=aIZ x l
 have a:=qJ s.pend x.n hp
 rw [decide_eq_true h,KR h] at a
 have e:=S7 s x.n i hl b o
 have c:=aDi s.run i b
 unfold pO Sta.av Sta.cs
 dsimp only
 rw [<-c]
 generalize s.run.length-1=q at *
 generalize rav (s.run.eraseIdx i)++[A3]=K at *
 clear c
 refine c_ Tryz.f13 fun _=>?_
 repeat' first | (refine gN hE ?_;conv=>whnf) | refine .pure _ _ j ?_ | refine .pure _ [] h1 ?_ | refine .pure _ [] m ?_ | refine .pure _ [] a ?_ | refine .eff [] [6,5] _ _ rfl e ?_ | exact rfl | refine aY ?_ | refine aN ?_ | refine aT fun h=>?_ | refine aF fun h=>?_ | refine ⟨fun h=>?_,fun h=>?_⟩ | refine aJ ?_ | refine ⟨_,rfl,?_⟩ | refine aD ?_ | fail
theorem aHE (id:Int):∀ (l:List Rn) (k i:Nat),(l.map fun x=>x.g.id).Nodup->aH (aV id) l k=((k+i:Nat):Int)->l.eraseIdx i=aB l [id]
 | [],k,i,_,h=>by have h:(-1:Int)=((k+i:Nat):Int):=h;omega
 | x::l,k,i,hn,h=>by
  rw [Bp,Cg] at hn
  unfold aH at h
  by_cases a:aV id x=true
  .rw [if_pos a] at h
   obtain rfl:i=0:=o_
   have b:x.g.id=id:=by unfold aV at a;simpa using a
   have h1:inB x.g.id [id]=true:=AO.2 (by rw [b];exact Jc _)
   rw [jR h1]
   show l=_
   refine (Hh.2 fun y f=>?_).symm
   have:y.g.id≠id:=fun e=>hn.1 (by rw [b,<-e];exact Cw f)
   cases c:inB y.g.id [id] with
   | false=>rfl
   | true=>exact absurd (by simpa using AO.1 c) this
  .rw [if_neg a] at h
   rcases lQ (aV id) l (k+1) with d | d
   .omega
   .obtain ⟨j,rfl⟩:∃ j,i=j+1:=⟨i-1,by omega⟩
    have h1:inB x.g.id [id]=false:=by
     cases c:inB x.g.id [id] with
     | false=>rfl
     | true=>exact absurd (by unfold aV;simpa using AO.1 c) a
    rw [jQ h1]
    show x::l.eraseIdx j=_
    rw [aHE id l (k+1) j hn.2 (by rw [h];congr 1;omega)]
theorem aGV {s:Sta} (b:Base s) {n:Int} (h1:¬ eJ n s.pend<0) (c:0<=aH (aV n) s.run 0):False:=by
 obtain ⟨i,d⟩:=kZ c
 rcases AR n s.pend with ⟨_,h⟩ | ⟨A,p,B,e,hp,_⟩
 .omega
 .have a:=b.ids
  rw [Cc,Bu] at a
  exact a.2.2 n (by rw [e,<-hp];exact Cw (De _ (Ax ..))) n (by rw [<-d,Gq];exact Cw (f:=(fun x=>x.g.id) ∘ Rn.pn) i) rfl
theorem Z9 (s:Sta) (g:Gan):(cU s g).2≠0->(cU s g).1=s:=by
 unfold cU
 iterate 4 (split;· exact fun _=>rfl)
 exact fun h=>absurd rfl h
theorem WI (s:Sta) (n:Int):(gB s n).2.2≠0->(gB s n).1=s/\(gB s n).2.1=[]:=by
 unfold gB
 iterate 2 (split;· exact fun _=>⟨rfl,rfl⟩)
 exact fun h=>absurd rfl h
theorem wN (s:Sta) (x:Cmd) (h:StOK s) (B:x.k=1->x.c.sm):pO s x (bQ s x):=by
 have a:=h.run.sm
 have t:=h.run.base.few
 have q:=ML (RCore.once h.run.base (s:=s) (r:=⟨s,[],false,0⟩) (rest:=[]) ⟨rfl,rfl,rfl,rfl,Fb _,fun p hp=>(by cases hp),Gg,fun _=>rfl,a.run.2⟩)
 rw [Ay,Ck] at t
 unfold bQ
 by_cases b:C8.chk x≠0
 .rw [if_pos b]
  exact aEC s a x _ rfl b
 rw [if_neg b]
 have b:C8.chk x=0:=Ep.1 b
 have C:=aHG b
 by_cases l:x.k=1
 .rw [if_pos l]
  have j:=B l
  by_cases d:bC x.c≠0
  .rw [if_pos d]
   exact aAn s a x b l _ _ (fun _=>rfl) (aDk s x.c j d)
  rw [if_neg d]
  have d:bC x.c=0:=Ep.1 d
  by_cases f:0<s.pend.length+s.run.length
  .rw [if_pos f]
   exact aAn s a x b l _ _ (fun _=>rfl) (YZ s x.c j d o_ o_ f)
  .rw [if_neg f]
   exact aAn s a x b l _ _ (fun e=>absurd rfl e) (JP s x.c j d (Bl.1 o_) (Bl.1 o_))
 rw [if_neg l]
 by_cases d:x.k=2
 .rw [if_pos d]
  exact aKx s a x b d _ _ (Z9 s x.g) (aEt s x.g h.c o_ o_ h.nxt.2 h.nxt.1)
 rw [if_neg d]
 by_cases v:x.k=5
 .rw [if_pos v]
  exact aKv s a x b v _ _ _ (WI s x.n) (aB7 s x.n h.c a.run h.run.ord.lt h.run.ord.hl h.half h.run.ord.now.1 h.run.ord.now.2)
 rw [if_neg v]
 by_cases y:x.k=6
 .rw [if_pos y]
  exact aKu s a x b y _ _ (aED s h.run)
 rw [if_neg y]
 by_cases m:0<=aH (aV x.n) s.run 0
 .rw [if_pos m]
  obtain ⟨i,w⟩:∃ i:Nat,aH (aV x.n) s.run 0=(i:Int):=⟨_,(Iq m).symm⟩
  have o:i<s.run.length:=by
   rcases lQ (aV x.n) s.run 0 with A | A<;>omega
  rw [<-aHE x.n s.run 0 i q (by rw [w];congr 1;omega)]
  by_cases f:x.k=3
  .exact aKw s a x b f o_ i o w
  .have z:eJ x.n s.pend<0:=Ld fun e=>aGV h.run.base e m
   exact aIk s a x b o_ o_ o_ z i o w
 rw [if_neg m]
 by_cases u:x.k=3\/eJ x.n s.pend<0
 .rw [if_pos u]
  by_cases f:x.k=3
  .exact aIm s a x b f o_ m
  .exact aIl s a x b o_ o_ o_ (u.resolve_left f) m
 .rw [if_neg u]
  exact aIj s a x b o_ o_ o_
abbrev cmv (l:List Cmd):List AVal:=l.map Cmd.av
noncomputable abbrev aHz:Func:=Tryz.f16
def nQ:List Cmd->Sta->List Int->Sta×List Int
 | [],s,es=>(s,es)
 | x::l,s,es=>nQ l (bQ s x).1 (es++[(bQ s x).2.2])
set_option maxHeartbeats 1000000 in
theorem XM (L:List Cmd) (p:L.length<=1000000) (d:Sta->List Cmd->Prop) (n:∀ s x l,d s (x::l)->pO s x (bQ s x)/\d (bQ s x).1 l) (R:Sta×List Int):∀ (m i:Nat) (s:Sta) (es:List Int),i+m=L.length->es.length<=i->d s (L.drop i)->nQ (L.drop i) s es=R->
  To (Eo [5] []) aHz (.pure (.ret (.tup [R.1.av,.slice 1 (iv R.2) .no]))) (.head (stk aHz 0) [(2,.ref 0 0),(4,.ref 1 0),(5,.slice 1 (iv es) (.own 2 0)),(10,.slice 15 (cmv L) .no),(11,.int .i64 ((cmv L).length:Nat)),(12,ii i)] [SK,nL s,.tail 0 1 43]):=by
 have f:(cmv L).length=L.length:=by simp
 intro m
 induction m with
 | zero=>
  intro i s es k h _ a
  rw [Ae o_] at a
  have a:(s,es)=R:=a
  subst a
  refine gV ?_
  exact zW
 | succ m g=>
  intro i s es k h c a
  have b:i<L.length:=o_
  rw [Ac b] at a c
  have get:(cmv L)[i]? =some L[i].av:=by simp [b]
  generalize L[i]=x at a c get
  obtain ⟨h1,j⟩:=n _ _ _ c
  have next:=g (i+1) (bQ s x).1 (es++[(bQ s x).2.2]) o_ q_ j a
  have o:(iv es).length<=1048576:=by simp;omega
  have e:iv (es++[(bQ s x).2.2])=iv es++[ii (bQ s x).2.2]:=by simp
  rw [e] at next
  generalize bQ s x=r at *
  clear g a e
  refine gV ?_
  exact zW
def uS:Sta:=⟨⟨[],[],0,0⟩,0,1,[],[],[]⟩
theorem KX (L:List Cmd) (d:L.length<=1000000) (a:Sta->List Cmd->Prop) (c:∀ s x l,a s (x::l)->pO s x (bQ s x)/\a (bQ s x).1 l) (b:a uS L):
  aA Tryz.prog 16 [.slice 15 (cmv L) .no] [] (.ret (.tup [(nQ L uS []).1.av,.slice 1 (iv (nQ L uS []).2) .no])) []:=by
 have h:=XM L d a c (nQ L uS []) L.length 0 uS [] o_ s_ (by rw [Bn];exact b) (by rw [Bn])
 have e:=TA
 generalize nQ L uS []=R at *
 refine cT (E:=(Eo [5] [])) (fn:=Tryz.f16) (g:=.pure _) fun _=>?_
 exact zW
theorem BJ {f:Rn->Int} (q:Rn->Bool):∀ {l:List Rn},(∀ x∈l,0<=f x)->cK ((l.filter q).map f)<=cK (l.map f)
 | [],_=>Ds _
 | x::l,h=>by
  have d:=BJ q (l:=l) fun y b=>h y (Bd _ b)
  have c:=h x (Ax ..)
  have e:cK ((x::l).map f)=f x+cK (l.map f):=rfl
  by_cases a:q x=true
  .rw [Gh a,e]
   show f x+cK _<=_
   omega
  .rw [Gi a,e]
   omega
theorem KU {f:Rn->Int} {x:Rn}:∀ {l:List Rn},cK ((l++[x]).map f)=cK (l.map f)+f x
 | []=>by show f x+0=0+f x;omega
 | y::l=>by
  show f y+cK ((l++[x]).map f)=f y+cK (l.map f)+f x
  rw [KU]
  omega
theorem aDu {c:Con} {free:List V3} {g:Gan} {hs:List Int}:JU c free g hs=true↔(hs.length:Int)=g.pods/\(∃ G∈gpL c g.lev,∀ u∈hs,u∈G)/\∀ u∈hs,0<=u/\u<(free.length:Int)/\((hs.count u:Nat):Int)<=dV ((free[u.toNat]?).getD V3.zero) g.need:=by
 constructor
 .intro h
  obtain ⟨h1,f⟩:=aGO h
  refine ⟨h1,?_,f⟩
  unfold JU at h
  rw [if_pos h1,Ij] at h
  obtain ⟨G,i,h⟩:=h
  unfold tY at h
  rw [Ag] at h
  exact ⟨G,i,A7.1 h.1⟩
 .intro ⟨h1,⟨G,i,f⟩,h3⟩
  unfold JU
  rw [if_pos h1,Ij]
  refine ⟨G,i,?_⟩
  unfold tY
  rw [A7.2 f,Bo]
  unfold UV
  rw [Cu]
  intro u j
  obtain ⟨a,b,d⟩:=h3 u j
  unfold aF2
  rw [if_neg q_,if_neg q_]
  have e:RU u hs=((hs.count u:Nat):Int):=by unfold RU;rw [JQ];omega
  rw [e]
  simp
  omega
structure NeedOK (g:Gan):Prop where
 v:aQ g.need=true
 pods:1<=g.pods/\g.pods<=16
 lev:0<=g.pref/\g.pref<=g.lev/\g.lev<=3
 run:1<=g.run/\g.run<=1048576
 id:1<=g.id
theorem jV {c:Con} {g:Gan} (h:fN c g=0):NeedOK g:=by
 obtain ⟨h1,_⟩:=xK.1 h
 unfold OK at h1
 simp only [Ag,decide_eq_true_eq] at h1
 exact ⟨h1.2.1,by omega,by omega,by omega,by omega⟩
def sY (p:V3->Int) (c:Con) (l:List Rn):Prop:=∀ j:Nat,j<c.hs.length->cK (l.map (BG p (j:Int)))<=p (bE c.hs (j:Int)).c
def aLK (c:Con) (r:Rn):Prop:=(r.hs.length:Int)=r.g.pods/\(∃ G∈gpL c r.g.lev,∀ u∈r.hs,u∈G)/\∀ u∈r.hs,0<=u/\u<(c.hs.length:Int)
structure HstOK (c:Con) (l:List Rn):Prop where
 a:sY V3.a c l
 b:sY V3.b c l
 d:sY V3.c c l
theorem sY.filter {p:V3->Int} {c:Con} {l:List Rn} (q:Rn->Bool) (b:∀ v,aQ v=true->0<=p v) (e:∀ x∈l,NeedOK x.g) (h:sY p c l):sY p c (l.filter q):=fun j d=>
 Ft (BJ q fun x a=>Je (b _ (e x a).v) o_) (h j d)
theorem HstOK.filter {c:Con} {l:List Rn} (q:Rn->Bool) (f:∀ x∈l,NeedOK x.g) (h:HstOK c l):HstOK c (l.filter q):=
 ⟨h.a.filter q (fun _ e=>(cJ e).1.1) f,h.b.filter q (fun _ e=>(cJ e).2.1.1) f,h.d.filter q (fun _ e=>(cJ e).2.2.1) f⟩
theorem sY.more {p:V3->Int} {c:Con} {l:List Rn} {x:Rn} (hp:Prj p) (o:bC c=0) (f:∀ v,aQ v=true->0<=p v/\p v<=1048576) (k:∀ free need (n:Int),aQ need=true->1<=n->n<=dV free need->p need*n<=p free) (m:∀ y∈l,NeedOK y.g) (b:NeedOK x.g)
  (d:∀ u∈x.hs,((x.hs.count u:Nat):Int)<=dV (((iK c l)[u.toNat]?).getD V3.zero) x.g.need) (h:sY p c l):sY p c (l++[x]):=by
 intro j a
 rw [KU]
 have q:=h j a
 have e:BG p (j:Int) x=p x.g.need*((x.hs.count (j:Int):Nat):Int):=rfl
 by_cases hm:(j:Int)∈x.hs
 .have i:0<x.hs.count (j:Int):=List.count_pos_iff.2 hm
  have h1:=k _ _ _ b.v o_ (d _ hm)
  rw [Cz,aFZ hp (fun j a=>f _ (aDA o a)) (fun x b=>f _ (m x b).v) a,<-e] at h1
  have hz:0<=BG p (j:Int) x:=Je (f _ b.v).1 o_
  unfold cX at h1
  omega
 .rw [e,List.count_eq_zero.2 hm]
  simp
  omega
theorem HstOK.more {c:Con} {l:List Rn} {x:Rn} (k:bC c=0) (m:∀ y∈l,NeedOK y.g) (j:NeedOK x.g) (f:∀ u∈x.hs,((x.hs.count u:Nat):Int)<=dV (((iK c l)[u.toNat]?).getD V3.zero) x.g.need) (h:HstOK c l):HstOK c (l++[x]):=
 ⟨h.a.more aIL k (fun _ e=>(cJ e).1) (fun _ _ _ e h1 i=>(wR e h1 i).1) m j f,h.b.more aIK k (fun _ e=>(cJ e).2.1) (fun _ _ _ e h1 i=>(wR e h1 i).2.1) m j f,h.d.more aIJ k (fun _ e=>(cJ e).2.2) (fun _ _ _ e h1 i=>(wR e h1 i).2.2) m j f⟩
def zH (c:Con) (l:List Rn):Prop:=∀ i:Nat,i<c.ns.length->cF (atV (ofL c l) (i:Int)) (MT c (i:Int))=true
theorem NeedOK.dem {g:Gan} (h:NeedOK g):(dem g).pos:=aGF h.v ⟨by have:=h.pods;omega,h.pods.2⟩
theorem zH.filter {c:Con} {l:List Rn} (q:Rn->Bool) (d:∀ x∈l,NeedOK x.g) (h:zH c l):zH c (l.filter q):=fun i a=>
 uL.2 ((aFb (fun x b=>(d x b).dem) q (i:Int)).2.1.trans (uL.1 (h i a)))
theorem zH.more {c:Con} {l:List Rn} {x:Rn} (m:∀ y∈l,NeedOK y.g) (n:NeedOK x.g) (hm:zS c (ofL c l) x.g.ten (Go.Proofs.YticlgfdibfobdaaGreat.dem x.g)=true) (hl:aX c.ns x.g.ten=true) (h:zH c l):zH c (l++[x]):=by
 intro i f
 by_cases hp:(i:Int)∈bD c.ns x.g.ten
 .have h1:=(LU (fun y k=>(m y k).dem) n.dem hm _ hp).2
  have e:T4 c x.g.ten (i:Int)=MT c (i:Int):=by
   unfold T4 MT
   by_cases b:(i:Int)=x.g.ten
   .rw [if_pos b,b,if_pos hl]
   .rw [if_neg b,if_neg]
    intro d
    unfold bD at hp
    rw [Hj] at hp
    exact b (T9 d hp)
  rw [<-e]
  exact h1
 .have e:atV (ofL c (l++[x])) (i:Int)=atV (ofL c l) (i:Int):=by
   have a:c.ok (i:Int):=⟨by omega,by simpa using f⟩
   rw [yP a,yP a,Jk]
   show oJ c _ _ x=_
   unfold oJ
   rw [if_neg]
   intro j
   exact hp (by unfold bD;rw [Hj];simpa using j.2)
  rw [e]
  exact h i f
theorem FW:∀ {l ns:List Nod} {i:Nat},nA ns i l=true->∀ k (h:k<l.length),nW (rlB ns ((i+k:Nat):Int)) (i+k) l[k]=true
 | [],_,_,_,k,h=>absurd h (Nat.not_lt_zero _)
 | x::l,ns,i,h0,k,h=>by
  unfold nA at h0
  by_cases a:nW (rlB ns i) i x=true
  .rw [if_pos a] at h0
   cases k with
   | zero=>exact a
   | succ k=>
    have:=FW h0 k (by simpa using h)
    rw [show i+1+k=i+(k+1) from by omega] at this
    exact this
  .rw [if_neg a] at h0
   cases h0
theorem yZ {c:Con} (h:bC c=0):zN c/\nA c.ns 0 c.ns=true/\c.hs.all oA=true:=by
 unfold bC at h
 split at h
 .split at h
  .split at h
   .exact ⟨by assumption,by assumption,by assumption⟩
   .omega
  .omega
 .omega
theorem E7 {v:V3} (h:aQ v=true):v.pos:=by
 obtain ⟨a,b,d⟩:=cJ h
 exact ⟨a.1,b.1,d.1⟩
theorem MO {c:Con} (h:bC c=0) {i:Nat} (d:i<c.ns.length):(bR c.ns (i:Int)).n.pos/\(bR c.ns (i:Int)).b.pos:=by
 have h1:=FW (yZ h).2.1 i d
 have e:bR c.ns (i:Int)=c.ns[i]:=by unfold bR;rw [Cz,Ab d];rfl
 rw [e]
 unfold nW at h1
 have a:∀ v:V3,zB v=true->v.pos:=fun v f=>by
  unfold zB at f
  simp at f
  exact ⟨by omega,by omega,by omega⟩
 split at h1
 .cases h1
 .split at h1
  .simp only [Ag] at h1
   exact ⟨E7 h1.1,E7 h1.2.1⟩
  .simp only [Ag] at h1
   exact ⟨a _ h1.1,a _ h1.2.1⟩
theorem aBi {c:Con} (h:bC c=0):zH c []:=by
 intro i j
 have g:c.ok (i:Int):=⟨by omega,by simpa using j⟩
 rw [yP g]
 have hs:∀ p:V3->Int,Prj p->(∀ v:V3,v.pos->0<=p v)->0<=p (MT c (i:Int)):=fun p hp k=>by
  have b:0<=p (iD c.ns (i:Int) (lL c.ns))/\p (iD c.ns (i:Int) (lL c.ns))<=cX:=by
   unfold iD
   have hz:=hp.zero
   have a:∀ e∈(aZ c.ns (i:Int)).map fun t=>p (atV (lL c.ns) t),0<=e:=fun e l=>by
    obtain ⟨t,m,rfl⟩:=Ce.1 l
    have d:=iA c (i:Int) t m
    rw [aBL d]
    have f:t=(t.toNat:Int):=by have:=d.1;omega
    rw [f]
    exact k _ (MO h d.2).1
   rw [HX hp,hz,uZ (Ds _) d_ a]
   have:=lD a
   unfold cX
   omega
  unfold MT
  split
  .rw [hp.add]
   have h1:=k _ (MO h j).2
   rw [rI b.1 b.2 h1]
   unfold cX
   omega
  .exact b.1
 exact uL.2 ⟨hs _ aIL fun _ h=>h.1,hs _ aIK fun _ h=>h.2.1,hs _ aIJ fun _ h=>h.2.2⟩
theorem YF {c:Con} {free:List V3} {g:Gan} (A:1<=g.pods) (hl:0<=g.pref/\g.pref<=g.lev/\g.lev<=3) {x:Int×List Int} (h:sU c free g=some x):(bE c.hs (x.2.headD 0)).f=x.1:=by
 have d:∀ (j:List (List Int)),fdG c free g j=some x->∃ a∈j,x=((bE c.hs (a.headD 0)).f,inL free g a)/\¬ ((inL free g a).length:Int)<g.pods:=fun j=>by
  induction j with
  | nil=>intro h;cases h
  | cons a r l=>
   intro h
   unfold fdG at h
   by_cases h1:((inL free g a).length:Int)<g.pods
   .rw [if_pos (decide_eq_true h1)] at h
    obtain ⟨q,m,o⟩:=l h
    exact ⟨q,Bd _ m,o⟩
   .rw [if_neg (by rw [decide_eq_false h1];decide)] at h
    cases h
    exact ⟨a,Ax ..,rfl,h1⟩
 have b:∀ (n:Nat) (lv:Int),fdL c free g n lv=some x->∃ e,lv<=e/\e<lv+n/\fdG c free g (gpL c e)=some x:=fun n=>by
  induction n with
  | zero=>intro lv h;cases h
  | succ n l=>
   intro lv h
   unfold fdL at h
   cases i:fdG c free g (gpL c lv) with
   | some y=>
    rw [i] at h
    cases h
    exact ⟨lv,Ds _,by omega,i⟩
   | none=>
    rw [i] at h
    obtain ⟨e,m,o,u⟩:=l (lv+1) h
    exact ⟨e,by omega,by omega,u⟩
 unfold sU at h
 obtain ⟨e,l1,l2,w⟩:=b _ _ h
 obtain ⟨a,z,rfl,p⟩:=d _ w
 have k:(inL free g a).headD 0∈a:=by
  have hm:(inL free g a).headD 0∈inL free g a:=by
   cases i:inL free g a with
   | nil=>rw [i] at p;simp at p;omega
   | cons y t=>exact Ax ..
  rcases QN a [] _ hm with h | h
  .cases h
  .exact h.1
 obtain ⟨_,v⟩:=I5 (c:=c) (lv:=e) o_ o_
 have s:=(J3 o_ o_).1 ((v a z).2.2 _ k).2.2
 unfold pS ofK at s
 exact (Dt s).1.symm
abbrev Srt (l:List Pn):Prop:=l.Pairwise fun a b=>a.seq<b.seq
structure RunP (c:Con) (now:Int) (l:List Rn):Prop where
 time:∀ r∈l,r.at'<=r.st/\r.st<=now/\now<cO r/\(bE c.hs (r.hs.headD 0)).f=r.fl
 plc:∀ r∈l,aLK c r
 hst:HstOK c l
 quo:zH c l
def aHL (c:Con) (nxt now:Int) (x:Pn):Prop:=fN c x.g=0/\(bU c [] x.g).isNone=false/\(0<=x.seq/\x.seq<nxt)/\0<=x.at'/\x.at'<=now
structure OkS (s:Sta):Prop where
 head:nE s.c=true\/bC s.c=0
 now:0<=s.now/\s.now<=1099511627776
 nxt:1<=s.nxt/\s.nxt<=1099511627776
 hist:s.hist.length=s.c.ns.length
 few:s.pend.length+s.run.length<=32
 row:Srt s.pend
 gang:∀ x∈s.pend++s.run.map Rn.pn,aHL s.c s.nxt s.now x
 ids:((s.pend++s.run.map Rn.pn).map fun x=>x.g.id).Nodup
 seqs:((s.pend++s.run.map Rn.pn).map fun x=>x.seq).Nodup
 run:RunP s.c s.now s.run
theorem aAd {l:List Pn}:(l.map Pn.q).Pairwise (fun a b=>a.seq<b.seq)↔Srt l:=by
 rw [Dc]
 exact Mv
theorem UD (p:Q2.Pend):∀ {l:List Q2.Pend},l.Pairwise (fun a b=>a.seq<b.seq)->(∀ x∈l,x.seq≠p.seq)->(Q2.insP p l).Pairwise (fun a b=>a.seq<b.seq)/\∀ x∈Q2.insP p l,x=p\/x∈l
 | [],_,_=>⟨Jb _ _,fun x c=>.inl (Du.1 c)⟩
 | y::r,h,hn=>by
  rw [Br] at h
  unfold Q2.insP
  by_cases d:p.seq<y.seq
  .rw [if_pos d]
   refine ⟨Br.2 ⟨fun z hz=>?_,Br.2 h⟩,fun x c=>Au.1 c⟩
   rcases Au.1 hz with rfl | hz
   .exact d
   .have:=h.1 z hz
    omega
  .rw [if_neg d]
   obtain ⟨h1,e⟩:=UD p h.2 fun x c=>hn x (Bd _ c)
   have f:=hn y (Ax ..)
   refine ⟨Br.2 ⟨fun z hz=>?_,h1⟩,fun x c=>?_⟩
   .rcases e z hz with rfl | hz
    .omega
    .exact h.1 z hz
   .rcases Au.1 c with rfl | c
    .exact .inr (Ax ..)
    .rcases e x c with rfl | c
     .exact .inl rfl
     .exact .inr (Bd _ c)
theorem TQ {l:List Pn} {p:Pn} (h:Srt l) (b:∀ x∈l,x.seq≠p.seq):Srt (gT l p):=by
 refine aAd.1 ?_
 rw [P3,Q2.putP_ins]
 refine (UD p.q (aAd.2 h) fun x a=>?_).1
 obtain ⟨y,c,rfl⟩:=Ce.1 a
 exact b y c
theorem KQ {l:List Pn} {a:Int} (h:Srt l):Srt (cS l a):=by
 unfold cS
 split
 .exact h
 .exact h.sublist (List.eraseIdx_sublist ..)
structure SizOK (c:Con):Prop where
 ns:c.ns.length<=12
 hs:c.hs.length<=24
 half:0<=c.half/\c.half<=1048576
 age:0<=c.age/\c.age<=1048576
theorem sC {c:Con}:nE c=true↔c=⟨[],[],0,0⟩:=by
 obtain ⟨a,b,d,e⟩:=c
 unfold nE
 simp
theorem qT {c:Con} (h:nE c=true\/bC c=0):SizOK c:=by
 rcases h with h | h
 .rw [sC] at h
  subst h
  exact ⟨by simp,by simp,by decide,by decide⟩
 .have h1:=(yZ h).1
  unfold zN at h1
  exact ⟨by omega,by omega,by omega,by omega⟩
theorem Q6 {c:Con} (h:nE c=true) (g:Gan):fN c g≠0:=by
 rw [sC] at h
 subst h
 intro e
 have h1:=(xK.1 e).2
 unfold aX at h1
 simp at h1
 omega
theorem QG {c:Con} (h:nE c=true\/bC c=0) {g:Gan} (a:fN c g=0):bC c=0:=h.resolve_left fun e=>Q6 e g a
theorem OkS.base {s:Sta} (h:OkS s):Base s where
 c:=⟨by have:=(qT h.head).ns;omega,by have:=(qT h.head).hs;omega⟩
 ids:=h.ids
 seqs:=h.seqs
 few:=by rw [Ay,Ck];have:=h.few;omega
 gang x hx:=by
  have hn:=jV (h.gang x hx).1
  have:=hn.pods
  have:=hn.id
  exact ⟨by omega,hn.v,by omega⟩
theorem KM (s:Sta) {l:List Pn} (h:(l.map fun x=>x.seq).Nodup):Tot (ltP s) l:=by
 unfold Tot
 unfold Ii at h
 rw [Dc] at h
 exact h.imp fun h=>aFA s h
theorem OkS.st {s:Sta} (h:OkS s) (hl:LtF s.hist):StOK s:=by
 have hz:=qT h.head
 have h1:=hz.ns
 have j:=hz.hs
 have h3:=hz.half
 have l:=hz.age
 have f:=h.hist
 have k:=h.few
 have i:=h.nxt
 have b:Sm s.run:=⟨by omega,fun x d=>by
  have:=(h.run.plc x d).1
  have:=(jV (h.gang x.pn (De _ (Cw d))).1).pods
  have e:x.pn.g=x.g:=rfl
  rw [e] at this
  omega⟩
 have a:=h.seqs
 rw [Cc,Bu] at a
 exact ⟨h.base.c,⟨h.base,⟨by omega,by omega,by omega,b,by omega⟩,⟨h.base.c,h1,hl,by omega,h.now,by omega⟩,fun p hp=>(h.gang p (Dr _ hp)).2.2.2.1,KM s a.1⟩,by omega,by omega⟩
theorem RunP.filter {c:Con} {now:Int} {l:List Rn} (q:Rn->Bool) (b:∀ x∈l,NeedOK x.g) (h:RunP c now l):RunP c now (l.filter q):=
 ⟨fun r a=>h.time r (Fk.1 a).1,fun r a=>h.plc r (Fk.1 a).1,h.hst.filter q b,h.quo.filter q b⟩
theorem OkS.needs {s:Sta} (h:OkS s):∀ x∈s.run,NeedOK x.g:=fun x a=>jV (h.gang x.pn (De _ (Cw a))).1
theorem OkS.part {s:Sta} (h:OkS s) {pend:List Pn} {run:List Rn} {rest:List Pn} (hp:((pend++run.map Rn.pn)++rest).Perm (s.pend++s.run.map Rn.pn)) (hs:Srt pend) (hr:RunP s.c s.now run):OkS {s with pend:=pend,run:=run} where
 head:=h.head
 now:=h.now
 nxt:=h.nxt
 hist:=h.hist
 few:=by
  have h1:=hp.length_eq
  have h2:=h.few
  simp only [Ay,Ck] at h1
  show pend.length+run.length<=32
  omega
 row:=hs
 gang x hx:=h.gang x (hp.mem_iff.1 (Dr _ hx))
 ids:=by
  have h1:=((hp.map fun x=>x.g.id).nodup_iff).2 h.ids
  rw [Cc,Bu] at h1
  exact h1.1
 seqs:=by
  have h1:=((hp.map fun x=>x.seq).nodup_iff).2 h.seqs
  rw [Cc,Bu] at h1
  exact h1.1
 run:=hr
theorem DE {α:Type} (q:α->Bool):∀ (l:List α),(l.filter q++l.filter fun x=>!q x).Perm l
 | []=>Fb _
 | x::l=>by
  have b:=DE q l
  by_cases a:q x=true
  .rw [Gh a,Gi (by rw [a];decide)]
   exact b.cons x
  .rw [Gi a,Gh (by simpa using a)]
   exact Ej.trans (b.cons x)
theorem OkS.wo {s:Sta} (h:OkS s) (q:Rn->Bool):OkS {s with run:=s.run.filter q}:=by
 refine h.part (pend:=s.pend) (run:=s.run.filter q) (rest:=(s.run.filter fun x=>!q x).map Rn.pn) ?_ h.row (h.run.filter q h.needs)
 rw [Aj,<-Cc]
 exact Dk _ ((DE q s.run).map _)
theorem OkS.take {s:Sta} (h:OkS s) (a:Int):OkS {s with pend:=cS s.pend a}:=by
 have b:=h.run
 rcases AR a s.pend with ⟨_,e⟩ | ⟨A,p,B,c,f,d⟩
 .have:cS s.pend a=s.pend:=by unfold cS;rw [if_pos o_]
  rw [this]
  exact h
 .have e:cS s.pend a=A++B:=by
   unfold cS
   rw [if_neg o_,d,c]
   show (A++p::B).eraseIdx A.length=_
   rw [Jd (Ba _),Lv]
   rfl
  refine h.part (pend:=cS s.pend a) (run:=s.run) (rest:=[p]) ?_ (KQ h.row) b
  rw [e,c]
  refine Dl.trans ?_
  show (p::((A++B)++_)).Perm _
  rw [Aj,Aj]
  exact Ej.symm
structure RK (s:Sta) (r:Rd):Prop where
 row:Srt r.s.pend
 run:RunP s.c s.now r.s.run
theorem RCore.gangA {s:Sta} {r:Rd} {rest:List Pn} (o:OkS s) (h:RCore s r rest):∀ x∈r.s.pend++r.s.run.map Rn.pn,aHL s.c s.nxt s.now x:=fun x a=>o.gang x (h.perm.mem_iff.1 a)
theorem RCore.needs {s:Sta} {r:Rd} {rest:List Pn} (o:OkS s) (h:RCore s r rest):∀ x∈r.s.run,NeedOK x.g:=fun x a=>jV (h.gangA o x.pn (De _ (Cw a))).1
theorem RK.adm {s:Sta} {r:Rd} {p:Pn} {rest:List Pn} (o:OkS s) (h:RCore s r (p::rest)) (k:RK s r) {x:Int×List Int} (e:bU r.s.c r.s.run p.g=some x):RK s (uC r p x.1 x.2):=by
 have hp:=h.gangA o p (Dr _ (h.sub p (Ax ..)))
 have d:=jV hp.1
 have w:=QG o.head hp.1
 rw [h.c] at e
 unfold bU at e
 split at e
 .rename_i hm
  obtain ⟨n,j⟩:=aCC d.v d.pods.1 d.lev e
  have l:=YF d.pods.1 d.lev e
  obtain ⟨q,t,m⟩:=aDu.1 j
  have b:=h.needs o
  refine ⟨KQ k.row,⟨fun y a=>?_,fun y a=>?_,?_,?_⟩⟩
  .rcases Az.1 a with a | a
   .exact k.run.time y a
   .rw [Du.1 a]
    have:=hp.2.2.2
    have:=d.run
    have:=o.now
    refine ⟨by show p.at'<=r.s.now;rw [h.now];omega,by show r.s.now<=s.now;rw [h.now];omega,?_,l⟩
    have i:=h.now
    unfold cO
    dsimp only
    split
    .omega
    .split<;>omega
  .rcases Az.1 a with a | a
   .exact k.run.plc y a
   .rw [Du.1 a]
    exact ⟨q,t,fun u f=>by have:=m u f;rw [aCw] at this;exact ⟨this.1,this.2.1⟩⟩
  .exact k.run.hst.more w b d fun u f=>(n u f).2.2
  .exact k.run.quo.more b d hm (xK.1 hp.1).2
 .cases e
theorem NN (run:List Rn):∀ (ids:List Int) (r:Rd),Srt r.s.pend->((ids.map (fun id=>(xOf run id).pn)++r.s.pend).map fun x=>x.seq).Nodup->Srt (ids.foldl (cV run) r).s.pend
 | [],_,h,_=>h
 | id::ids,r,h,hn=>by
  rw [Al]
  have hp:=wZ r.s.pend (xOf run id).pn
  rw [Bp,Cm,Bp,Cg] at hn
  refine NN run ids (cV run r id) (TQ h fun x a e=>hn.1 ?_) ?_
  .have e:x.seq=(xOf run id).pn.seq:=e
   rw [<-e]
   exact Cw (De _ a)
  .have h1:(ids.map (fun id=>(xOf run id).pn)++(cV run r id).s.pend).Perm ((xOf run id).pn::(ids.map (fun id=>(xOf run id).pn)++r.s.pend)):=(Dk _ hp).trans Ej
   refine ((h1.map fun x=>x.seq).nodup_iff).2 ?_
   rw [Bp,Cg]
   exact hn
theorem RK.evic {s:Sta} {r:Rd} {rest:List Pn} (o:OkS s) (h:RCore s r rest) (k:RK s r) {ids:List Int} (c:ids.Nodup) (a:∀ id∈ids,0<=aH (aV id) r.s.run 0):RK s (fO r ids):=by
 refine ⟨NN r.s.run ids r k.row ?_,k.run.filter _ (h.needs o)⟩
 have h1:=(ME (h.once o.base) c a).map Rn.pn
 rw [Cc,Gq] at h1
 have b:((ids.map (fun id=>(xOf r.s.run id).pn)++r.s.pend)++(aB r.s.run ids).map Rn.pn).Perm (s.pend++s.run.map Rn.pn):=by
  refine Ma ?_ h.perm
  refine (Dq _ Dl).trans ?_
  rw [Aj]
  exact Dk _ h1
 have h3:=((b.map fun x=>x.seq).nodup_iff).2 o.seqs
 rw [Cc,Bu] at h3
 exact h3.1
theorem RK.admR {s:Sta} {r:Rd} {p:Pn} {rest:List Pn} (o:OkS s) (h:RCore s r (p::rest)) (k:RK s r):RK s (Go.Proofs.YticlgfdibfobdaaGreat.admR r p).1:=by
 unfold Go.Proofs.YticlgfdibfobdaaGreat.admR
 cases a:bU r.s.c r.s.run p.g with
 | none=>exact k
 | some x=>
  obtain ⟨fl,hs⟩:=x
  unfold wH
  dsimp only
  split
  .exact k
  .exact k.adm o h a
theorem RK.look {s:Sta} {r:Rd} {p:Pn} {rest:List Pn} (o:OkS s) (h:RCore s r (p::rest)) (k:RK s r):RK s (bB r p):=by
 unfold bB
 split
 .exact k.admR o h
 .rename_i i
  split
  .exact k
  .rename_i l
   have a:r.head=false:=by cases b:r.head with | false=>rfl | true=>exact absurd b l
   have d:bU r.s.c r.s.run p.g=none:=by
    cases j:bU r.s.c r.s.run p.g with
    | none=>rfl
    | some x=>
     obtain ⟨fl,hs⟩:=x
     refine absurd ?_ i
     unfold Go.Proofs.YticlgfdibfobdaaGreat.admR
     rw [j]
     unfold wH
     dsimp only
     rw [a]
     rfl
   cases b:dO r.s.c r.s.run p.g with
   | none=>
    show RK s (XA r p _)
    cases lE r.s.c r.s.now r.s.run p.g with
    | none=>exact k
    | some n=>exact ⟨k.row,k.run⟩
   | some ids=>
    obtain ⟨_,e,_,f,_⟩:=sF o.base h d b
    exact (k.evic o h e f).admR o (h.evic o.base e f)
theorem FJ {s:Sta} (o:OkS s):∀ (L:List Pn) (r:Rd),AA s r L->RK s r->RK s (L.foldl bB r)
 | [],_,_,k=>k
 | p::L,r,h,k=>FJ o L (bB r p) (wT o.base r p L h) (k.look o h.1)
theorem OkS.round {s:Sta} (o:OkS s) (hl:LtF s.hist):OkS (iW s).s:=by
 have hst:=(o.st hl).run.start
 have h1:=(vC o.base (oN s) _ hst).1
 have f:=FJ o (oN s) _ hst ⟨o.row,o.run⟩
 have e:(iW s).s={s with pend:=(iW s).s.pend,run:=(iW s).s.run}:=by
  have a:=h1.c
  have b:=h1.now
  have c:=h1.nxt
  have d:=h1.hist
  change (iW s).s.c=s.c at a
  change (iW s).s.now=s.now at b
  change (iW s).s.nxt=s.nxt at c
  change (iW s).s.hist=s.hist at d
  rw [<-a,<-b,<-c,<-d]
 rw [e]
 refine o.part (rest:=[]) ?_ f.row f.run
 rw [Bc]
 exact h1.perm
theorem PE {s:Sta} (o:OkS s) (hl:LtF s.hist):(iW s).s.hist=s.hist/\(iW s).s.nxt=s.nxt/\(iW s).s.c=s.c/\(iW s).s.now=s.now:=by
 have h1:=(vC o.base (oN s) _ (o.st hl).run.start).1
 exact ⟨h1.hist,h1.nxt,h1.c,h1.now⟩
theorem aH5 (h b:List Nat) (n half:Int):LtF (tkL h b n half):=by
 unfold tkL
 have key:∀ (l:List Nat) (i:Nat),LtF (cP (tkS b n half) l i):=fun l=>by
  induction l with
  | nil=>intro i x a;cases a
  | cons y l c=>
   intro i x a
   rcases Au.1 a with rfl | a
   .unfold tkS
    split
    .exact A0 _ _
    .exact vJ _ _
   .exact c (i+1) x a
 exact key h 0
theorem OkS.tick {s:Sta} (o:OkS s) (n:Int):OkS (gB s n).1/\(gB s n).1.nxt=s.nxt:=by
 unfold gB
 split
 .exact ⟨o,rfl⟩
 .split
  .exact ⟨o,rfl⟩
  .have c:=o.wo fun x=>decide (s.now+n<cO x)
   have h:=o.now
   refine ⟨⟨c.head,⟨by show 0<=s.now+n;omega,by show s.now+n<=_;omega⟩,c.nxt,?_,c.few,c.row,fun x j=>?_,c.ids,c.seqs,⟨fun r g=>?_,c.run.plc,c.run.hst,c.run.quo⟩⟩,rfl⟩
   .show (tkL _ _ _ _).length=_
    unfold tkL
    rw [jB]
    exact o.hist
   .obtain ⟨a,b,d,e,f⟩:=c.gang x j
    exact ⟨a,b,d,e,by show x.at'<=s.now+n;have f:x.at'<=s.now:=f;omega⟩
   .obtain ⟨a,b,d,e⟩:=c.run.time r g
    have i:=(Fk.1 g).2
    exact ⟨a,by show r.st<=s.now+n;have b:r.st<=s.now:=b;omega,of_decide_eq_true i,e⟩
theorem OkS.conf {s:Sta} (o:OkS s) {c:Con} (d:bC c=0) (h:¬ 0<s.pend.length+s.run.length):OkS {s with c:=c,hist:=Ai c.ns.length 0}:=by
 have hp:s.pend=[]:=Bl.1 o_
 have b:s.run=[]:=Bl.1 o_
 obtain ⟨g,now,nxt,pend,run,hist⟩:=s
 dsimp only at hp b
 subst hp b
 refine ⟨.inr d,o.now,o.nxt,by simp,by simp,Jg,fun x f=>(by cases f),Gg,Gg,⟨fun r b=>(by cases b),fun r b=>(by cases b),?_,aBi d⟩⟩
 have key:∀ p:V3->Int,(∀ v,aQ v=true->0<=p v)->sY p c []:=fun p a j e=>a _ (aDA d e)
 exact ⟨key _ fun _ a=>(cJ a).1.1,key _ fun _ a=>(cJ a).2.1.1,key _ fun _ a=>(cJ a).2.2.1⟩
theorem YH {a:Int} {l:List Pn} (h:eJ a l<0):∀ p∈l,p.g.id≠a:=by
 rcases AR a l with ⟨h1,_⟩ | ⟨A,p,B,_,_,h1⟩
 .exact h1
 .omega
theorem OkS.submit {s:Sta} (o:OkS s) (p:s.nxt<1099511627776) (g:Gan):OkS (cU s g).1/\(cU s g).1.nxt<=s.nxt+1/\s.nxt<=(cU s g).1.nxt:=by
 unfold cU
 iterate 4 (split;· exact ⟨o,by show s.nxt<=s.nxt+1;omega,Ds _⟩)
 rename_i h1 n h3 m
 have h1:fN s.c g=0:=Ep.1 h1
 refine ⟨?_,Ds _,by show s.nxt<=s.nxt+1;omega⟩
 have hp:=wZ s.pend ⟨g,s.nxt,s.now⟩
 have h:(gT s.pend ⟨g,s.nxt,s.now⟩++s.run.map Rn.pn).Perm (⟨g,s.nxt,s.now⟩::(s.pend++s.run.map Rn.pn)):=Dq _ hp
 have i:=o.now
 have l:=o.nxt
 refine ⟨o.head,o.now,⟨by show 1<=s.nxt+1;omega,by show s.nxt+1<=_;omega⟩,o.hist,?_,TQ o.row fun x f e=>?_,fun x f=>?_,?_,?_,o.run⟩
 .have:=hp.length_eq
  rw [Bq] at this
  show (gT s.pend _).length+s.run.length<=32
  omega
 .have:=(o.gang x (Dr _ f)).2.2.1
  have e:x.seq=s.nxt:=e
  omega
 .rcases Au.1 (h.mem_iff.1 f) with rfl | f
  .refine ⟨h1,by cases j:(bU s.c [] g).isNone with | true=>exact absurd j h3 | false=>rfl,⟨by show 0<=s.nxt;omega,by show s.nxt<s.nxt+1;omega⟩,i.1,Ds _⟩
  .obtain ⟨a,b,d,e⟩:=o.gang x f
   exact ⟨a,b,⟨d.1,by show x.seq<s.nxt+1;omega⟩,e⟩
 .refine ((h.map fun x=>x.g.id).nodup_iff).2 (Cg.2 ⟨fun hm=>?_,o.ids⟩)
  obtain ⟨x,f,e⟩:=Ce.1 hm
  have e:x.g.id=g.id:=e
  rcases Az.1 f with f | f
  .exact YH o_ x f e
  .obtain ⟨r,k,rfl⟩:=Ce.1 f
   have:=DC s.run 0 r k e
   omega
 .refine ((h.map fun x=>x.seq).nodup_iff).2 (Cg.2 ⟨fun hm=>?_,o.seqs⟩)
  obtain ⟨x,f,e⟩:=Ce.1 hm
  have:=(o.gang x f).2.2.1
  have e:x.seq=s.nxt:=e
  omega
structure OkT (s:Sta):Prop where
 ok:OkS s
 lt:LtF s.hist
theorem OkT.apply {s:Sta} (o:OkT s) (e:s.nxt<1099511627776) (x:Cmd):OkT (bQ s x).1/\(bQ s x).1.nxt<=s.nxt+1/\s.nxt<=(bQ s x).1.nxt:=by
 have same:OkT s/\s.nxt<=s.nxt+1/\s.nxt<=s.nxt:=⟨o,by omega,Ds _⟩
 unfold bQ
 split
 .exact same
 split
 .split
  .exact same
  .rename_i c
   split
   .exact same
   .rename_i b
    refine ⟨⟨o.ok.conf (Ep.1 c) b,fun y d=>?_⟩,same.2⟩
    have:=List.eq_of_mem_replicate d
    omega
 split
 .obtain ⟨h1,a⟩:=o.ok.submit e x.g
  refine ⟨⟨h1,?_⟩,a⟩
  have:(cU s x.g).1.hist=s.hist:=by
   unfold cU
   iterate 4 (split;· rfl)
   rfl
  rw [this]
  exact o.lt
 split
 .obtain ⟨h1,a⟩:=o.ok.tick x.n
  refine ⟨⟨h1,?_⟩,by rw [a];exact same.2⟩
  unfold gB
  split
  .exact o.lt
  .split
   .exact o.lt
   .exact aH5 _ _ _ _
 split
 .obtain ⟨h1,a,_⟩:=PE o.ok o.lt
  refine ⟨⟨o.ok.round o.lt,?_⟩,?_⟩
  .show LtF (iW s).s.hist
   rw [h1]
   exact o.lt
  .show (iW s).s.nxt<=_/\_<=(iW s).s.nxt
   rw [a]
   exact same.2
 split
 .exact ⟨⟨o.ok.wo _,o.lt⟩,same.2⟩
 split
 .exact same
 .exact ⟨⟨o.ok.take _,o.lt⟩,same.2⟩
theorem aEs:OkT uS:=by
 refine ⟨⟨.inl d_,by decide,by decide,rfl,by decide,Jg,fun x b=>(by cases b),Gg,Gg,⟨fun r a=>(by cases a),fun r a=>(by cases a),⟨?_,?_,?_⟩,?_⟩⟩,fun x b=>(by cases b)⟩
 all_goals exact fun j c=>absurd c (Nat.not_lt_zero _)
def two (a:Int) (b:Int) (x:Rn):Bool:=!((x.g.id==a)||(x.seq==b))
def fpB (s:Sta) (p:Pn):Bool:=!((jU s.c.ns p.g==0)||(decide (p.at'<0)||decide (s.now<p.at')))&&s.run.all (two p.g.id p.seq)
def frB (l:List Rn):Nat->Nat->Bool
 | 0,_=>true
 | m+1,i=>(match l[i]? with
  | some x=>(l.take i).all (two x.g.id x.seq)
  | none=>true)&&frB l m (i+1)
def DJ (s:Sta):Int:=
 if xN s.c s.now s.run=0 then 0 else if 32<s.pend.length then 0 else if aEM s.pend=false then 0 else if s.hist.length≠s.c.ns.length then 0 else
 if s.pend.all (fpB s)&&frB s.run s.run.length 0 then 1 else 0
noncomputable abbrev fFa:Func:=Tryz.f33
theorem aKX (s:Sta) (hl:s.run.length<=1048576) (i:Nat) (o:i<1048576) (p:Pn) (r:Int):∀ (m k:Nat),k+m=s.run.length->((s.run.drop k).all (two p.g.id p.seq)=false->r=0)->
  ((s.run.drop k).all (two p.g.id p.seq)=true->To E fFa (.pure (.ret (ii r))) (.head (stk fFa 0) [(1,.ref 0 0),(3,.int .i64 ((i:Int)+1))] [.cells 31 s.cs]))->
  To E fFa (.pure (.ret (ii r))) (.head (stk fFa 1) [(1,.ref 0 0),(3,.int .i64 i),(4,.ref 1 0),(5,.int .i64 k)] [.cells 31 s.cs,.cells 78 p.cs]):=by
 have h:(rav s.run).length=s.run.length:=by simp
 intro m
 induction m with
 | zero=>
  intro k n b a
  have a:=a (by rw [Ae o_];rfl)
  refine gV ?_
  exact zW
 | succ m d=>
  intro k n b a
  have c:k<s.run.length:=o_
  rw [Ac c,Ei] at b a
  have get:=bN c
  generalize s.run[k]=x at get b a
  have e:two p.g.id p.seq x= !((x.g.id==p.g.id)||(x.seq==p.seq)):=rfl
  have next:=d (k+1) o_
  cases f:x.g.id==p.g.id with
  | true=>
   obtain rfl:=b (by rw [e,f];rfl)
   clear next a d
   refine gV ?_
   exact zW
  | false=>
   cases j:x.seq==p.seq with
   | true=>
    obtain rfl:=b (by rw [e,f,j];rfl)
    clear next a d
    refine gV ?_
    exact zW
   | false=>
    have l:two p.g.id p.seq x=true:=by rw [e,f,j];rfl
    rw [l,Bo] at b a
    have next:=next b a
    clear d b a
    refine gV ?_
    exact zW
theorem aJt (s:Sta) (hl:s.run.length<=1048576) (i:Nat) (y:Rn) (p:(rav s.run)[i]? =some y.av) (o:i<s.run.length) (r:Int):∀ (m k:Nat),k+m=i->(((s.run.take i).drop k).all (two y.g.id y.seq)=false->r=0)->
  (((s.run.take i).drop k).all (two y.g.id y.seq)=true->To E fFa (.pure (.ret (ii r))) (.head (stk fFa 2) [(1,.ref 0 0),(6,.int .i64 ((i:Int)+1))] [.cells 31 s.cs]))->
  To E fFa (.pure (.ret (ii r))) (.head (stk fFa 3) [(1,.ref 0 0),(6,.int .i64 i),(7,.int .i64 k)] [.cells 31 s.cs]):=by
 have h:(rav s.run).length=s.run.length:=by simp
 intro m
 induction m with
 | zero=>
  intro k n b a
  have a:=a (by rw [Ae (by rw [Fz];omega)];rfl)
  refine gV ?_
  exact zW
 | succ m c=>
  intro k n b a
  have e:k<(s.run.take i).length:=by rw [Fz];omega
  rw [Ac e,Ei] at b a
  rw [List.getElem_take] at b a
  have get:=bN (show k<s.run.length by omega)
  generalize s.run[k]=x at get b a
  have d:two y.g.id y.seq x= !((x.g.id==y.g.id)||(x.seq==y.seq)):=rfl
  have next:=c (k+1) o_
  cases f:x.g.id==y.g.id with
  | true=>
   obtain rfl:=b (by rw [d,f];rfl)
   clear next a c
   refine gV ?_
   exact zW
  | false=>
   cases j:x.seq==y.seq with
   | true=>
    obtain rfl:=b (by rw [d,f,j];rfl)
    clear next a c
    refine gV ?_
    exact zW
   | false=>
    have l:two y.g.id y.seq x=true:=by rw [d,f,j];rfl
    rw [l,Bo] at b a
    have next:=next b a
    clear c b a
    refine gV ?_
    exact zW
theorem aJu (s:Sta) (hl:s.run.length<=1048576) (r:Int):∀ (m i:Nat),i+m=s.run.length->(if frB s.run m i then (1:Int) else 0)=r->
  To E fFa (.pure (.ret (ii r))) (.head (stk fFa 2) [(1,.ref 0 0),(6,.int .i64 i)] [.cells 31 s.cs]):=by
 have c:(rav s.run).length=s.run.length:=by simp
 intro m
 induction m with
 | zero=>
  intro i e a
  have a:1=r:=a
  subst a
  refine gV ?_
  exact zW
 | succ m d=>
  intro i e a
  have b:i<s.run.length:=o_
  unfold frB at a
  rw [Ab b] at a
  have a:(if ((s.run.take i).all (two s.run[i].g.id s.run[i].seq)&&frB s.run m (i+1))=true then (1:Int) else 0)=r:=a
  have next:=aJt s hl i s.run[i] (bN b) b r i 0 o_ (fun h=>by rw [Bn] at h;rw [h] at a;exact a.symm) (fun h=>d (i+1) o_ (by rw [Bn] at h;rw [h,Bo] at a;exact a))
  refine gV ?_
  exact zW
theorem aJv (s:Sta) (o:s.c.sm) (hp:s.pend.length<=1000000) (hl:s.run.length<=1048576) (r:Int):∀ (m i:Nat),i+m=s.pend.length->(if (s.pend.drop i).all (fpB s)&&frB s.run s.run.length 0 then (1:Int) else 0)=r->
  To E fFa (.pure (.ret (ii r))) (.head (stk fFa 0) [(1,.ref 0 0),(3,.int .i64 i)] [.cells 31 s.cs]):=by
 have l:(pnv s.pend).length=s.pend.length:=by simp
 intro m
 induction m with
 | zero=>
  intro i n a
  rw [Ae o_] at a
  have next:=aJu s hl r s.run.length 0 o_ a
  refine gV ?_
  exact zW
 | succ m b=>
  intro i n a
  have d:i<s.pend.length:=o_
  rw [Ac d,Ei] at a
  have get:=rR d
  generalize s.pend[i]=p at get a
  have u:=AP s.c o p.g
  have e:fpB s p=(!((jU s.c.ns p.g==0)||(decide (p.at'<0)||decide (s.now<p.at')))&&s.run.all (two p.g.id p.seq)):=rfl
  have next:=aKX s hl i o_ p r s.run.length 0 o_
  have b:=b (i+1) o_
  cases f:(jU s.c.ns p.g==0) with
  | true=>
   rw [e,f] at a
   exact zqya12
  | false=>
   by_cases j:p.at'<0
   .rw [e,f,decide_eq_true j] at a
    exact zqya12
   .by_cases k:s.now<p.at'
    .rw [e,f,decide_eq_true k,decide_eq_false j] at a
     exact zqya12
    .rw [e,f,decide_eq_false k,decide_eq_false j] at a
     have a:(if (s.run.all (two p.g.id p.seq)&&(s.pend.drop (i+1)).all (fpB s))&&frB s.run s.run.length 0 then (1:Int) else 0)=r:=a
     have next:=next (fun h=>by rw [Bn] at h;rw [h] at a;exact a.symm) (fun h=>b (by rw [Bn] at h;rw [h,Bo] at a;exact a))
     generalize jU s.c.ns p.g=q at *
     clear b a
     refine gV ?_
     exact zW
theorem QV (s:Sta) (k:s.c.sm) (hs:Sm s.run) (r:Int) (a:DJ s=r):aA Tryz.prog 33 [s.av] [] (.ret (ii r)) []:=by
 have l:=aJw s.c k s.now s.run hs
 have l1:(pnv s.pend).length=s.pend.length:=by simp
 have l2:(fv s.hist).length=s.hist.length:=by simp
 have i:(nav s.c.ns).length=s.c.ns.length:=by simp
 unfold DJ at a
 by_cases e:xN s.c s.now s.run=0
 .rw [if_pos e] at a
  subst a
  rw [e] at l
  exact zqya15
 rw [if_neg e] at a
 have n:(xN s.c s.now s.run==0)=false:=beq_eq_false_iff_ne.2 e
 generalize xN s.c s.now s.run=w at *
 by_cases j:32<s.pend.length
 .rw [if_pos j] at a
  subst a
  exact zqya15
 rw [if_neg j] at a
 have h:=Q2.checkref_ok (s.pend.map Pn.q) (by rw [Ck];omega)
 rw [nR,show Q2.checkP (s.pend.map Pn.q)=aEM s.pend from rfl] at h
 cases d:aEM s.pend with
 | false=>
  rw [if_pos d] at a
  subst a
  rw [d] at h
  exact zqya15
 | true=>
  rw [if_neg (by rw [d];decide)] at a
  rw [d] at h
  by_cases b:s.hist.length≠s.c.ns.length
  .rw [if_pos b] at a
   subst a
   have m:(((fv s.hist).length:Int) !=((nav s.c.ns).length:Int))=true:=by rw [l2,i];simp;omega
   exact zqya15
  .rw [if_neg b] at a
   have b:s.hist.length=s.c.ns.length:=Ep.1 b
   have m:(((fv s.hist).length:Int) !=((nav s.c.ns).length:Int))=false:=by rw [l2,i,b];simp
   have next:=aJv s k o_ hs.1 r s.pend.length 0 o_ (by rw [Bn];exact a)
   exact zqya15
theorem NM {l:List Rn}:∀ {m i:Nat},frB l m i=true->∀ j (h:j<l.length),i<=j->j<i+m->(l.take j).all (two l[j].g.id l[j].seq)=true
 | 0,i,_,j,_,h1,h2=>by omega
 | m+1,i,h0,j,h,h1,h2=>by
  unfold frB at h0
  rw [Ag] at h0
  by_cases a:j=i
  .subst a
   have:=h0.1
   rw [Ab h] at this
   exact this
  .exact NM h0.2 j h o_ o_
theorem ZW {a b:Int} {x:Rn} (h:two a b x=true):x.g.id≠a/\x.seq≠b:=by
 unfold two at h
 simpa using h
theorem aF0 {l:List Rn} (h:frB l l.length 0=true):l.Pairwise fun a b=>a.g.id≠b.g.id/\a.seq≠b.seq:=by
 rw [Dn]
 intro i j e d c
 have h1:=NM h j d (Cn _) o_
 rw [Cu] at h1
 exact ZW (h1 l[i] (Im.2 ⟨i,by omega,rfl⟩))
structure FairP (s:Sta):Prop where
 few:xN s.c s.now s.run=1
 pend:s.pend.length<=32
 row:aEM s.pend=true
 hist:s.hist.length=s.c.ns.length
 gang:∀ p∈s.pend,jU s.c.ns p.g≠0/\0<=p.at'/\p.at'<=s.now
 two:∀ p∈s.pend,∀ x∈s.run,x.g.id≠p.g.id/\x.seq≠p.seq
 once:s.run.Pairwise fun a b=>a.g.id≠b.g.id/\a.seq≠b.seq
theorem aJy (c:Con) (now:Int) (l:List Rn):xN c now l=0\/xN c now l=1:=by
 unfold xN
 repeat' split
 all_goals first | exact .inl rfl | exact .inr rfl
theorem aJC {s:Sta} (h:DJ s≠0):FairP s:=by
 unfold DJ at h
 split at h
 .exact absurd rfl h
 split at h
 .exact absurd rfl h
 split at h
 .exact absurd rfl h
 split at h
 .exact absurd rfl h
 split at h
 .rename_i h1 d h3 c a
  rw [Ag,Cu] at a
  refine ⟨(aJy _ _ _).resolve_left h1,by omega,by simpa using h3,Ep.1 c,fun p hp=>?_,fun p hp x b=>?_,aF0 a.2⟩
  .have:=a.1 p hp
   unfold fpB at this
   simp only [Ag,Eb,Ie,beq_eq_false_iff_ne,decide_eq_false_iff_not] at this
   exact ⟨this.1.1,by omega,by omega⟩
  .have:=a.1 p hp
   unfold fpB at this
   rw [Ag,Cu] at this
   exact ZW (this.2 x b)
 .exact absurd rfl h
theorem C7 {ns:List Nod} {g:Gan} (h:jU ns g≠0):NK ns g=true:=by
 unfold jU at h
 split at h
 .assumption
 .exact absurd rfl h
theorem tP {ns:List Nod} {g:Gan} (h:NK ns g=true):NeedOK g:=by
 unfold NK at h
 simp only [Ag,decide_eq_true_eq] at h
 exact ⟨h.2.1,by omega,by omega,by omega,by omega⟩
theorem YI {c:Con} {now:Int} {l:List Rn} (h:xN c now l=1):bC c=0/\l.length<=32/\(0<=now/\now<=1099511627776)/\∀ x∈l,jU c.ns x.g≠0/\(0<=x.st/\x.st<=now)/\(x.hs.length:Int)=x.g.pods/\∀ u∈x.hs,0<=u/\u<(c.hs.length:Int):=by
 unfold xN at h
 split at h
 .omega
 .rename_i e
  unfold R8 at e
  split at h
  .rename_i hl
   rw [Cu] at hl
   refine ⟨by omega,by omega,by omega,fun x d=>?_⟩
   have h1:=hl x d
   unfold aEE at h1
   split at h1
   .cases h1
   .rename_i b
    unfold R7 at b
    unfold tO at h1
    rw [Cu] at h1
    exact ⟨by omega,by omega,by omega,fun u a=>of_decide_eq_true (h1 u a)⟩
  .omega
def DI (s:Sta):Int:=
 if nE s.c=true then (if (s.pend.length=0/\s.run.length=0/\s.hist.length=0)/\(0<=s.now/\s.now<=1099511627776)/\1<=s.nxt/\s.nxt<=1099511627776 then 1 else 0) else
 if s.nxt<1\/1099511627776<s.nxt\/32<s.pend.length+s.run.length then 0 else
 if s.pend.all (fun p=>decide (0<=p.seq/\p.seq<s.nxt))=true then DJ s else 0
structure FairS (s:Sta):Prop where
 siz:SizOK s.c
 chk:nE s.c=true\/bC s.c=0
 now:0<=s.now/\s.now<=1099511627776
 nxt:1<=s.nxt/\s.nxt<=1099511627776
 few:s.pend.length+s.run.length<=32
 hist:s.hist.length=s.c.ns.length
 row:Srt s.pend
 ids:((s.pend++s.run.map Rn.pn).map fun x=>x.g.id).Nodup
 seqs:((s.pend++s.run.map Rn.pn).map fun x=>x.seq).Nodup
 need:∀ x∈s.pend++s.run.map Rn.pn,NeedOK x.g
 at':∀ p∈s.pend,0<=p.at'/\p.at'<=s.now
 hs:∀ x∈s.run,x.hs.length<=16
theorem aJB {s:Sta} (h:DI s≠0):FairS s:=by
 unfold DI at h
 split at h
 .rename_i l
  split at h
  .rename_i h1
   have C:=sC.1 l
   obtain ⟨c,now,nxt,pend,run,hist⟩:=s
   dsimp only at *
   obtain ⟨⟨a,b,d⟩,e,f⟩:=h1
   obtain rfl:=Bl.1 a
   obtain rfl:=Bl.1 b
   obtain rfl:=Bl.1 d
   subst C
   exact ⟨qT (.inl l),.inl l,e,f,Cn _,rfl,Jg,Gg,Gg,fun x i=>(by cases i),fun x i=>(by cases i),fun x i=>(by cases i)⟩
  .exact absurd rfl h
 .split at h
  .exact absurd rfl h
  .split at h
   .rename_i h1 w h3
    have hp:=aJC h
    obtain ⟨u,F,A,t⟩:=YI hp.few
    have n:Q2.Good (s.pend.map Pn.q):=Q2.check_good.1 hp.row
    have D:(s.pend.map fun x=>x.g.id).Nodup:=by
     have:=n.id
     rw [Dc] at this
     unfold Ii
     rw [Dc]
     exact this
    have y:(s.pend.map fun x=>x.seq).Nodup:=by
     have:=n.seq
     rw [Dc] at this
     unfold Ii
     rw [Dc]
     exact this.imp fun h e=>by have h:_<_:=h;exact absurd e (Int.ne_of_lt h)
    have v:((s.run.map Rn.pn).map fun x=>x.g.id).Nodup:=by
     unfold Ii
     rw [Dc,Dc]
     exact hp.once.imp fun h=>h.1
    have B:((s.run.map Rn.pn).map fun x=>x.seq).Nodup:=by
     unfold Ii
     rw [Dc,Dc]
     exact hp.once.imp fun h=>h.2
    refine ⟨qT (.inr u),.inr u,A,by omega,by omega,hp.hist,aAd.1 n.seq,?_,?_,fun x i=>?_,fun p i=>(hp.gang p i).2,fun x i=>?_⟩
    .rw [Cc,Bu]
     refine ⟨D,v,fun a o b j e=>?_⟩
     obtain ⟨p,k,rfl⟩:=Ce.1 o
     rw [Gq] at j
     obtain ⟨x,i,m⟩:=Ce.1 j
     exact (hp.two p k x i).1 (m.trans e.symm)
    .rw [Cc,Bu]
     refine ⟨y,B,fun a o b j e=>?_⟩
     obtain ⟨p,k,rfl⟩:=Ce.1 o
     rw [Gq] at j
     obtain ⟨x,i,m⟩:=Ce.1 j
     exact (hp.two p k x i).2 (m.trans e.symm)
    .rcases Az.1 i with i | i
     .exact tP (C7 (hp.gang x i).1)
     .obtain ⟨r,z,rfl⟩:=Ce.1 i
      exact tP (C7 (t r z).1)
    .have h1:=t x i
     have w:=(tP (C7 h1.1)).pods
     have h3:=h1.2.2.1
     omega
   .exact absurd rfl h
theorem FairS.base {s:Sta} (h:FairS s):Base s where
 c:=⟨by have:=h.siz.ns;omega,by have:=h.siz.hs;omega⟩
 ids:=h.ids
 seqs:=h.seqs
 few:=by rw [Ay,Ck];have:=h.few;omega
 gang x hx:=by
  have hn:=h.need x hx
  have:=hn.pods
  have:=hn.id
  exact ⟨by omega,hn.v,by omega⟩
theorem FairS.sm {s:Sta} (h:FairS s):Sm s.run:=⟨by have:=h.few;omega,fun x a=>by have:=h.hs x a;omega⟩
theorem FairS.st {s:Sta} (h:FairS s) (hl:LtF s.hist):StOK s:=by
 have h1:=h.siz.ns
 have e:=h.siz.hs
 have h3:=h.siz.half
 have g:=h.siz.age
 have b:=h.hist
 have f:=h.few
 have d:=h.nxt
 have a:=h.seqs
 rw [Cc,Bu] at a
 exact ⟨h.base.c,⟨h.base,⟨by omega,by omega,by omega,h.sm,by omega⟩,⟨h.base.c,h1,hl,by omega,h.now,by omega⟩,fun p hp=>(h.at' p hp).1,KM s a.1⟩,by omega,by omega⟩
theorem aIU {s:Sta} (h:StOK s) (hs:Sm s.run) (x:Cmd) (f:x.k=1->x.c.sm):Sm (bQ s x).1.run/\(bQ s x).1.hist.length<=1048576/\(bQ s x).2.1.length<=1000000:=by
 have a:=h.run.ord.hl
 have fl:∀ q:Rn->Bool,Sm (s.run.filter q):=fun q=>⟨Co (Dw _ _) hs.1,fun x d=>hs.2 x (Fk.1 d).1⟩
 have same:Sm s.run/\s.hist.length<=1048576/\([]:List Ev).length<=1000000:=⟨hs,a,by simp⟩
 unfold bQ
 split
 .exact same
 split
 .rename_i i
  split
  .exact same
  .split
   .exact same
   .refine ⟨hs,?_,by simp⟩
    show (Ai _ _).length<=_
    rw [Fy]
    exact (f i).ns
 split
 .have:(cU s x.g).1.hist=s.hist/\(cU s x.g).1.run=s.run:=by
   unfold cU
   iterate 4 (split;· exact ⟨rfl,rfl⟩)
   exact ⟨rfl,rfl⟩
  rw [this.1,this.2]
  exact same
 split
 .unfold gB
  split
  .exact same
  .split
   .exact same
   .refine ⟨fl _,?_,?_⟩
    .show (tkL _ _ _ _).length<=_
     unfold tkL
     rw [jB]
     exact a
    .show (jX _ _).length<=_
     unfold jX
     rw [Ck]
     have:=Dw (fun x=>decide (cO x<=s.now+x.g.id)) s.run
     refine Co (Dw _ _) ?_
     have:=h.run.base.few
     simp at this
     omega
 split
 .obtain ⟨h1,b⟩:=vC h.run.base (oN s) _ h.run.start
  refine ⟨h1.sm h.run.base,?_,?_⟩
  .have e:(iW s).s.hist=s.hist:=h1.hist
   show (iW s).s.hist.length<=_
   rw [e]
   exact a
  .have b:(iW s).ev.length+100*0<=900000:=b
   show (iW s).ev.length<=_
   omega
 split
 .exact ⟨fl _,a,by simp⟩
 split
 .exact same
 .exact ⟨hs,a,by simp⟩
noncomputable abbrev fF4:Func:=Tryz.f10
theorem aGf (s:Sta) (g:s.c.sm) (hs:Sm s.run) (hp:s.pend.length<=32) (r:Int):∀ (m i:Nat),i+m=s.pend.length->(if (s.pend.drop i).all (fun p=>decide (0<=p.seq/\p.seq<s.nxt))=true then DJ s else 0)=r->
  To E fF4 (.pure (.ret (ii r))) (.head (stk fF4 0) [(1,.ref 0 0),(3,ii i)] [.cells 31 s.cs]):=by
 have e:(pnv s.pend).length=s.pend.length:=by simp
 intro m
 induction m with
 | zero=>
  intro i f a
  rw [Ae o_] at a
  have a:DJ s=r:=a
  have h1:=QV s g hs r a
  refine gV ?_
  exact zW
 | succ m d=>
  intro i f a
  have b:i<s.pend.length:=o_
  rw [Ac b,Ei] at a
  have get:=rR b
  generalize s.pend[i]=p at get a
  have d:=d (i+1) o_
  by_cases q:0<=p.seq/\p.seq<s.nxt
  .rw [decide_eq_true q,Bo] at a
   have next:=d a
   clear d a
   refine gV ?_
   exact zW
  .rw [decide_eq_false q,Cj] at a
   have a:0=r:=a
   subst a
   clear d
   by_cases j:p.seq<0
   .refine gV ?_
    exact zW
   .have h:s.nxt<=p.seq:=o_
    refine gV ?_
    exact zW
set_option maxHeartbeats 2000000 in
theorem QU (s:Sta) (C:s.c.sm) (hs:Sm s.run) (x:s.pend.length<=1048576) (r:Int) (a:DI s=r):aA Tryz.prog 10 [s.av] [] (.ret (ii r)) []:=by
 have l1:(pnv s.pend).length=s.pend.length:=by simp
 have l2:(fv s.hist).length=s.hist.length:=by simp
 have F:(nav s.c.ns).length=s.c.ns.length:=by simp
 have I:(hav s.c.hs).length=s.c.hs.length:=by simp
 have G:(rav s.run).length=s.run.length:=by simp
 have hsl:=hs.1
 unfold DI at a
 by_cases l:nE s.c=true
 .rw [if_pos l] at a
  have d:=sC.1 l
  have J:(((nav s.c.ns).length:Int)==0)=true:=by rw [d];rfl
  have K:(((hav s.c.hs).length:Int)==0)=true:=by rw [d];rfl
  have H:(s.c.half==0)=true:=by rw [d];rfl
  have D:(s.c.age==0)=true:=by rw [d];rfl
  obtain ⟨h,p⟩:∃ b,(((pnv s.pend).length:Int)==0)=b:=⟨_,rfl⟩
  obtain ⟨i,o⟩:∃ b,(((rav s.run).length:Int)==0)=b:=⟨_,rfl⟩
  obtain ⟨j,m⟩:∃ b,(((fv s.hist).length:Int)==0)=b:=⟨_,rfl⟩
  have v:h=true↔s.pend.length=0:=by rw [<-p,beq_iff_eq];omega
  have q:i=true↔s.run.length=0:=by rw [<-o,beq_iff_eq];omega
  have t:j=true↔s.hist.length=0:=by rw [<-m,beq_iff_eq];omega
  by_cases e:(s.pend.length=0/\s.run.length=0/\s.hist.length=0)/\(0<=s.now/\s.now<=1099511627776)/\1<=s.nxt/\s.nxt<=1099511627776
  .rw [if_pos e] at a
   subst a
   obtain rfl:=v.2 e.1.1
   obtain rfl:=q.2 e.1.2.1
   obtain rfl:=t.2 e.1.2.2
   exact zqya1
  .rw [if_neg e] at a
   subst a
   cases h with
   | false=>
     exact zqya1
   | true=>
    cases i with
    | false=>
     exact zqya1
    | true=>
     cases j with
     | false=>
     exact c_ Tryz.f10 fun _=>zW
     | true=>
      have n1:=v.1 rfl
      have n2:=q.1 rfl
      have L:=t.1 rfl
      exact zqya1
 .rw [if_neg l] at a
  obtain ⟨h,p⟩:∃ b,(((nav s.c.ns).length:Int)==0)=b:=⟨_,rfl⟩
  obtain ⟨i,o⟩:∃ b,(((hav s.c.hs).length:Int)==0)=b:=⟨_,rfl⟩
  obtain ⟨j,m⟩:∃ b,(s.c.half==0)=b:=⟨_,rfl⟩
  obtain ⟨n,u⟩:∃ b,(s.c.age==0)=b:=⟨_,rfl⟩
  have k:¬ (h=true/\i=true/\j=true/\n=true):=fun ⟨w,z,B,y⟩=>l (by
   rw [w,beq_iff_eq] at p
   rw [z,beq_iff_eq] at o
   rw [B,beq_iff_eq] at m
   rw [y,beq_iff_eq] at u
   unfold nE
   rw [decide_eq_true (Bl.1 (show s.c.ns.length=0 by omega)),decide_eq_true (Bl.1 (show s.c.hs.length=0 by omega)),decide_eq_true m,decide_eq_true u]
   rfl)
  by_cases e:s.nxt<1\/1099511627776<s.nxt\/32<s.pend.length+s.run.length
  .rw [if_pos e] at a
   subst a
   cases h with
   | false=>
    exact zqya1
   | true=>
    cases i with
    | false=>
     exact zqya1
    | true=>
     cases j with
     | false=>
      exact zqya1
     | true=>
      cases n with
      | false=>
       exact zqya1
      | true=>exact absurd ⟨rfl,rfl,rfl,rfl⟩ k
  .rw [if_neg e] at a
   have next:=aGf s C hs o_ r s.pend.length 0 o_ (by rw [Bn];exact a)
   cases h with
   | false=>
    exact zqya1
   | true=>
    cases i with
    | false=>
     exact zqya1
    | true=>
     cases j with
     | false=>
      exact zqya1
     | true=>
      cases n with
      | false=>
       exact zqya1
      | true=>exact absurd ⟨rfl,rfl,rfl,rfl⟩ k
theorem rN (x:Cmd) (b:Bool) (d:decide (x.c.ns.length+x.c.hs.length<=500)=b) (a:x.c.sm):aA Tryz.prog 11 [x.av] [] (.ret (.bool b)) []:=by
 have j:(nav x.c.ns).length=x.c.ns.length:=by simp
 have e:(hav x.c.hs).length=x.c.hs.length:=by simp
 have h1:=a.ns
 have i:=a.hs
 refine c_ Tryz.f11 fun _=>?_
 repeat' first | (refine gN hE ?_;conv=>whnf) | exact rfl | refine aY ?_ | refine aN ?_ | refine aT fun h=>?_ | refine aF fun h=>?_ | refine ⟨fun h=>?_,fun h=>?_⟩ | refine aJ ?_ | refine ⟨_,rfl,?_⟩ | refine aD ?_ | fail
 rw [<-d]
 exact congrArg (fun x=>Res.ret (AVal.bool x)) (decide_eq_decide.2 o_)
noncomputable abbrev aLm:Func:=Tryz.f15
def Ev.eqb (x y:Ev):Bool:=(x.k==y.k)&&((x.id==y.id)&&((x.n==y.n)&&true))
theorem Ev.eqb_eq {x y:Ev}:x.eqb y=true↔x=y:=by
 obtain ⟨_,_,_⟩:=x
 obtain ⟨_,_,_⟩:=y
 simp [Ev.eqb]
theorem aCM (a b:List Ev) (l:a.length=b.length) (hl:a.length<=1048576) (r:Bool):∀ (m i:Nat),i+m=a.length->decide (a.drop i=b.drop i)=r->
  To E aLm (.pure (.ret (.bool r))) (.head (stk aLm 0) [(0,.slice 3 (evv a) .no),(1,.slice 3 (evv b) .no),(5,.int .i64 i)] []):=by
 have j:(evv a).length=a.length:=by simp
 intro m
 induction m with
 | zero=>
  intro i o c
  exact zqya13
 | succ m g=>
  intro i o c
  have f:i<a.length:=o_
  have d:i<b.length:=o_
  rw [Ac f,Ac d] at c
  have k:=VB f
  have n:=VB d
  generalize a[i]=u at k c
  generalize b[i]=v at n c
  have next:=g (i+1) o_
  by_cases h1:u=v
  .have p:(!(Ev.eqb u v))=false:=by rw [Ev.eqb_eq.2 h1];rfl
   exact zqya20
  .have p:(!(Ev.eqb u v))=true:=by
    cases h:Ev.eqb u v with
    | false=>rfl
    | true=>exact absurd (Ev.eqb_eq.1 h) h1
   exact zqya23
theorem aJJ (a b:List Ev) (hl:a.length<=1048576):aA Tryz.prog 15 [.slice 3 (evv a) .no,.slice 3 (evv b) .no] [] (.ret (.bool (decide (a=b)))) []:=by
 have d:(evv a).length=a.length:=by simp
 have c:(evv b).length=b.length:=by simp
 by_cases h1:a.length=b.length
 .have h:(((evv a).length:Int) !=((evv b).length:Int))=false:=by rw [d,c,h1];simp
  have next:=aCM a b h1 hl _ a.length 0 o_ (show _=decide (a=b) by rw [Bn,Bn])
  generalize decide (a=b)=r at *
  exact c_ Tryz.f15 fun _=>zW
 .have h:(((evv a).length:Int) !=((evv b).length:Int))=true:=by rw [d,c];simp;omega
  rw [decide_eq_false fun e=>h1 (by rw [e])]
  exact c_ Tryz.f15 fun _=>zW
def Pn.eqb (x y:Pn):Bool:=(x.g.id==y.g.id)&&((x.g.ten==y.g.ten)&&((x.g.pods==y.g.pods)&&((x.g.need.a==y.g.need.a)&&((x.g.need.b==y.g.need.b)&&((x.g.need.c==y.g.need.c)&&((x.g.run==y.g.run)&&((x.g.lev==y.g.lev)&&((x.g.pref==y.g.pref)&&((x.seq==y.seq)&&((x.at'==y.at')&&true))))))))))
theorem Pn.eqb_eq {x y:Pn}:x.eqb y=true↔x=y:=by
 obtain ⟨⟨_,_,_,⟨_,_,_⟩,_,_,_⟩,_,_⟩:=x
 obtain ⟨⟨_,_,_,⟨_,_,_⟩,_,_,_⟩,_,_⟩:=y
 simp [Pn.eqb,and_assoc]
theorem sB {α:Type} [DecidableEq α] {f:α->α->Bool} (c:∀ x y,f x y=true↔x=y):∀ (a b:List α),C8.eqL f a b=decide (a=b)
 | [],[]=>rfl
 | [],_::_=>rfl
 | _::_,[]=>rfl
 | x::r,y::s=>by
  show (f x y&&C8.eqL f r s)=_
  rw [sB c r s]
  cases h:f x y with
  | true=>
   have:=(c x y).1 h
   subst this
   simp
  | false=>
   have:x≠y:=fun e=>by rw [(c x y).2 e] at h;cases h
   simp [this]
theorem aCU (a b:List Pn) (l:a.length=b.length) (hl:((pnv a).length:Int)<=9223372036854775807) (r:Bool):∀ (n i:Nat),i+n=a.length->C8.eqL Pn.eqb (a.drop i) (b.drop i)=r->
  To E Tryz.f96 (.pure (.ret (.bool r))) (.head (stk Tryz.f96 0) [(0,.slice 11 (pnv a) .no),(1,.slice 11 (pnv b) .no),(12,.int .i64 ((pnv a).length:Nat)),(13,.int .i64 i)] []):=by
 have e:(pnv a).length=a.length:=by simp
 intro n
 induction n with
 | zero=>
  intro i o c
  exact zqya29
 | succ n m=>
  intro i o c
  have h1:i<a.length:=o_
  have d:i<b.length:=o_
  rw [Ac h1,Ac d] at c
  have c:(Pn.eqb a[i] b[i]&&C8.eqL Pn.eqb (a.drop (i+1)) (b.drop (i+1)))=r:=c
  generalize q:a[i]=x at c
  generalize p:b[i]=y at c
  have j:(pnv a)[i]? =some (Pn.av x):=by simp [q,h1]
  have k:(pnv b)[i]? =some (Pn.av y):=by simp [p,d]
  refine gV ?_
  refine aT fun h=>?_
  repeat' first | (refine gN hE ?_;conv=>whnf) | refine ⟨_,j,?_⟩ | refine ⟨_,k,?_⟩ | exact rfl | refine aY ?_ | refine aN ?_ | refine aT fun h=>?_ | refine aF fun h=>?_ | refine ⟨fun h=>?_,fun h=>?_⟩ | refine aJ ?_ | refine ⟨_,rfl,?_⟩ | refine aD ?_ | fail
  .rename_i h
   have h:Pn.eqb x y=false:=iH h
   rw [h] at c
   rw [<-c];rfl
  .rename_i h
   have h:Pn.eqb x y=true:=iI h
   rw [h,Bo] at c
   have g:=m (i+1) o_ c
   exact zW
theorem aJL (a b:List Pn):aA Tryz.prog 96 [.slice 11 (pnv a) .no,.slice 11 (pnv b) .no] [] (.ret (.bool (C8.eqL Pn.eqb a b))) []:=by
 have d:(pnv a).length=a.length:=by simp
 have c:(pnv b).length=b.length:=by simp
 refine c_ Tryz.f96 fun j=>?_
 have hl:((pnv a).length:Int)<=9223372036854775807:=j.1
 refine gV ?_
 refine ⟨fun h=>?_,fun h=>?_⟩
 .have h:(((pnv a).length:Int) !=((pnv b).length:Int))=true:=h
  exact zqya19
 .have h:(((pnv a).length:Int) !=((pnv b).length:Int))=false:=h
  have i:=aCU a b (by simp at h;omega) hl _ a.length 0 o_ rfl
  exact zW
theorem aCY (a b:List Nat) (l:a.length=b.length) (hl:((fv a).length:Int)<=9223372036854775807) (r:Bool):∀ (n i:Nat),i+n=a.length->C8.eqL (fun x y:Nat=>((x:Int)==(y:Int))) (a.drop i) (b.drop i)=r->
  To E Tryz.f97 (.pure (.ret (.bool r))) (.head (stk Tryz.f97 0) [(0,.slice 1 (fv a) .no),(1,.slice 1 (fv b) .no),(12,.int .i64 ((fv a).length:Nat)),(13,.int .i64 i)] []):=by
 have e:(fv a).length=a.length:=by simp
 intro n
 induction n with
 | zero=>
  intro i m c
  exact zqya29
 | succ n o=>
  intro i m c
  have h1:i<a.length:=o_
  have d:i<b.length:=o_
  rw [Ac h1,Ac d] at c
  have c:((fun x y:Nat=>((x:Int)==(y:Int))) a[i] b[i]&&C8.eqL (fun x y:Nat=>((x:Int)==(y:Int))) (a.drop (i+1)) (b.drop (i+1)))=r:=c
  generalize q:a[i]=x at c
  generalize p:b[i]=y at c
  have j:(fv a)[i]? =some (uu x):=by simp [q,h1]
  have k:(fv b)[i]? =some (uu y):=by simp [p,d]
  refine gV ?_
  refine aT fun h=>?_
  repeat' first | (refine gN hE ?_;conv=>whnf) | refine ⟨_,j,?_⟩ | refine ⟨_,k,?_⟩ | exact rfl | refine aY ?_ | refine aN ?_ | refine aT fun h=>?_ | refine aF fun h=>?_ | refine ⟨fun h=>?_,fun h=>?_⟩ | refine aJ ?_ | refine ⟨_,rfl,?_⟩ | refine aD ?_ | fail
  .rename_i h
   have h:(fun x y:Nat=>((x:Int)==(y:Int))) x y=false:=iH h
   rw [h] at c
   rw [<-c];rfl
  .rename_i h
   have h:(fun x y:Nat=>((x:Int)==(y:Int))) x y=true:=iI h
   rw [h,Bo] at c
   have g:=o (i+1) o_ c
   exact zW
theorem aJN (a b:List Nat):aA Tryz.prog 97 [.slice 1 (fv a) .no,.slice 1 (fv b) .no] [] (.ret (.bool (C8.eqL (fun x y:Nat=>((x:Int)==(y:Int))) a b))) []:=by
 have d:(fv a).length=a.length:=by simp
 have c:(fv b).length=b.length:=by simp
 refine c_ Tryz.f97 fun j=>?_
 have hl:((fv a).length:Int)<=9223372036854775807:=j.1
 refine gV ?_
 refine ⟨fun h=>?_,fun h=>?_⟩
 .have h:(((fv a).length:Int) !=((fv b).length:Int))=true:=h
  exact zqya19
 .have h:(((fv a).length:Int) !=((fv b).length:Int))=false:=h
  have i:=aCY a b (by simp at h;omega) hl _ a.length 0 o_ rfl
  exact zW
theorem aCW (a b:List Int) (l:a.length=b.length) (hl:((iv a).length:Int)<=9223372036854775807) (r:Bool):∀ (n i:Nat),i+n=a.length->C8.eqL (fun x y:Int=>(x==y)) (a.drop i) (b.drop i)=r->
  To E Tryz.f95 (.pure (.ret (.bool r))) (.head (stk Tryz.f95 0) [(0,.slice 1 (iv a) .no),(1,.slice 1 (iv b) .no),(12,.int .i64 ((iv a).length:Nat)),(13,.int .i64 i)] []):=by
 have e:(iv a).length=a.length:=by simp
 intro n
 induction n with
 | zero=>
  intro i m c
  exact zqya29
 | succ n o=>
  intro i m c
  have h1:i<a.length:=o_
  have d:i<b.length:=o_
  rw [Ac h1,Ac d] at c
  have c:((fun x y:Int=>(x==y)) a[i] b[i]&&C8.eqL (fun x y:Int=>(x==y)) (a.drop (i+1)) (b.drop (i+1)))=r:=c
  generalize q:a[i]=x at c
  generalize p:b[i]=y at c
  have j:(iv a)[i]? =some (ii x):=by simp [q,h1]
  have k:(iv b)[i]? =some (ii y):=by simp [p,d]
  refine gV ?_
  refine aT fun h=>?_
  repeat' first | (refine gN hE ?_;conv=>whnf) | refine ⟨_,j,?_⟩ | refine ⟨_,k,?_⟩ | exact rfl | refine aY ?_ | refine aN ?_ | refine aT fun h=>?_ | refine aF fun h=>?_ | refine ⟨fun h=>?_,fun h=>?_⟩ | refine aJ ?_ | refine ⟨_,rfl,?_⟩ | refine aD ?_ | fail
  .rename_i h
   have h:(fun x y:Int=>(x==y)) x y=false:=iH h
   rw [h] at c
   rw [<-c];rfl
  .rename_i h
   have h:(fun x y:Int=>(x==y)) x y=true:=iI h
   rw [h,Bo] at c
   have g:=o (i+1) o_ c
   exact zW
theorem aJM (a b:List Int):aA Tryz.prog 95 [.slice 1 (iv a) .no,.slice 1 (iv b) .no] [] (.ret (.bool (C8.eqL (fun x y:Int=>(x==y)) a b))) []:=by
 have d:(iv a).length=a.length:=by simp
 have c:(iv b).length=b.length:=by simp
 refine c_ Tryz.f95 fun j=>?_
 have hl:((iv a).length:Int)<=9223372036854775807:=j.1
 refine gV ?_
 refine ⟨fun h=>?_,fun h=>?_⟩
 .have h:(((iv a).length:Int) !=((iv b).length:Int))=true:=h
  exact zqya19
 .have h:(((iv a).length:Int) !=((iv b).length:Int))=false:=h
  have i:=aCW a b (by simp at h;omega) hl _ a.length 0 o_ rfl
  exact zW
theorem aGj (a b:List Pn):aA Tryz.prog 96 [.slice 11 (pnv a) .no,.slice 11 (pnv b) .no] [] (.ret (.bool (decide (a=b)))) []:=by
 rw [<-sB (fun _ _=>Pn.eqb_eq) a b]
 exact aJL a b
theorem aGl (a b:List Nat):aA Tryz.prog 97 [.slice 1 (fv a) .no,.slice 1 (fv b) .no] [] (.ret (.bool (decide (a=b)))) []:=by
 rw [<-sB (f:=fun x y:Nat=>((x:Int)==(y:Int))) (fun x y=>by simp;omega) a b]
 exact aJN a b
theorem aGk (a b:List Int):aA Tryz.prog 95 [.slice 1 (iv a) .no,.slice 1 (iv b) .no] [] (.ret (.bool (decide (a=b)))) []:=by
 rw [<-sB (f:=fun x y:Int=>(x==y)) (fun x y=>by simp) a b]
 exact aJM a b
noncomputable abbrev aLg:Func:=Tryz.f121
theorem aBI (x y:Rn) (k:x.hs.length=y.hs.length) (n:x.hs.length<=1048576) (r:Bool):∀ (m i:Nat),i+m=x.hs.length->decide (x.hs.drop i=y.hs.drop i)=r->
  To E aLg (.pure (.ret (.bool r))) (.head (stk aLg 0) [(2,.ref 0 0),(3,.ref 1 0),(5,.int .i64 i)] [.cells 127 x.cs,.cells 127 y.cs]):=by
 have f:(iv x.hs).length=x.hs.length:=by simp
 intro m
 induction m with
 | zero=>
  intro i j a
  rw [Ae o_,Ae o_] at a
  have a:true=r:=a
  subst a
  refine gV ?_
  exact zW
 | succ m d=>
  intro i j a
  have c:i<x.hs.length:=o_
  have b:i<y.hs.length:=o_
  rw [Ac c,Ac b] at a
  have g:=bS c
  have h:=bS b
  generalize x.hs[i]=u at g a
  generalize y.hs[i]=v at h a
  have next:=d (i+1) o_
  by_cases h1:u=v
  .have l:(u !=v)=false:=by simpa using h1
   have next:=next (by rw [<-a,h1];exact decide_eq_decide.2 ⟨fun e=>by rw [e],fun e=>(Dt e).2⟩)
   clear d a
   refine gV ?_
   exact zW
  .have l:(u !=v)=true:=by simpa using h1
   have a:false=r:=by rw [<-a,decide_eq_false fun e=>h1 (Dt e).1]
   subst a
   clear d next
   refine gV ?_
   exact zW
theorem aI1 (x y:Rn) (u:x.hs.length<=1048576):aA Tryz.prog 121 [x.av,y.av] [] (.ret (.bool (decide (x=y)))) []:=by
 have p:(iv x.hs).length=x.hs.length:=by simp
 have q:(iv y.hs).length=y.hs.length:=by simp
 have a:(false !=false)=false:=rfl
 by_cases h1:x.g=y.g
 .have t:(!(Gan.eqb x.g y.g))=false:=by rw [Gan.eqb_eq.2 h1];rfl
  by_cases k:x.seq=y.seq
  .have o:(x.seq !=y.seq)=false:=by simpa using k
   by_cases h3:x.at'=y.at'
   .have m:(x.at' !=y.at')=false:=by simpa using h3
    by_cases i:x.st=y.st
    .have l:(x.st !=y.st)=false:=by simpa using i
     by_cases j:x.fl=y.fl
     .have d:(x.fl !=y.fl)=false:=by simpa using j
      by_cases n:x.hs.length=y.hs.length
      .have b:(((iv x.hs).length:Int) !=((iv y.hs).length:Int))=false:=by rw [p,q,n];simp
       have c:=b
       have s:decide (x.hs.drop 0=y.hs.drop 0)=decide (x=y):=by
              rw [Bn,Bn]
              obtain ⟨D,B,H,I,C,v⟩:=x
              obtain ⟨z,K,J,F,G,w⟩:=y
              dsimp only at h1 k h3 i j
              subst h1 k h3 i j
              simp
       have next:=aBI x y n u _ x.hs.length 0 o_ s
       generalize decide (x=y)=r at *
       exact zqya8
      .have c:(((iv x.hs).length:Int) !=((iv y.hs).length:Int))=true:=by rw [p,q];simp;omega
       have b:=a
       rw [decide_eq_false fun e=>n (by rw [e])]
       exact zqya8
     .have c:(x.fl !=y.fl)=true:=by simpa using j
      have d:=a
      have b:=a
      rw [decide_eq_false fun e=>j (by rw [e])]
      exact zqya8
    .have c:(x.st !=y.st)=true:=by simpa using i
     have l:=a
     have d:=a
     have b:=a
     rw [decide_eq_false fun e=>i (by rw [e])]
     exact zqya8
   .have c:(x.at' !=y.at')=true:=by simpa using h3
    have m:=a
    have l:=a
    have d:=a
    have b:=a
    rw [decide_eq_false fun e=>h3 (by rw [e])]
    exact zqya8
  .have c:(x.seq !=y.seq)=true:=by simpa using k
   have o:=a
   have m:=a
   have l:=a
   have d:=a
   have b:=a
   rw [decide_eq_false fun e=>k (by rw [e])]
   exact zqya8
 .have c:(!(Gan.eqb x.g y.g))=true:=by
   cases h:Gan.eqb x.g y.g with
   | false=>rfl
   | true=>exact absurd (Gan.eqb_eq.1 h) h1
  have t:=a
  have o:=a
  have m:=a
  have l:=a
  have d:=a
  have b:=a
  rw [decide_eq_false fun e=>h1 (by rw [e])]
  exact zqya8
noncomputable abbrev aK5:Func:=Tryz.f47
theorem aAq (a b:List Rn) (l:a.length=b.length) (hs:Sm a) (r:Bool):∀ (m i:Nat),i+m=a.length->decide (a.drop i=b.drop i)=r->
  To E aK5 (.pure (.ret (.bool r))) (.head (stk aK5 0) [(0,.slice 14 (rav a) .no),(1,.slice 14 (rav b) .no),(5,.int .i64 i)] []):=by
 have j:(rav a).length=a.length:=by simp
 have hl:=hs.1
 intro m
 induction m with
 | zero=>
  intro i o c
  exact zqya13
 | succ m h=>
  intro i o c
  have f:i<a.length:=o_
  have d:i<b.length:=o_
  rw [Ac f,Ac d] at c
  have k:=bN f
  have n:=bN d
  have g:=aI1 a[i] b[i] (hs.at f)
  generalize a[i]=u at k c g
  generalize b[i]=v at n c g
  have next:=h (i+1) o_
  by_cases h1:u=v
  .rw [decide_eq_true h1] at g
   have next:=next (by rw [<-c,h1];exact decide_eq_decide.2 ⟨fun e=>by rw [e],fun e=>(Dt e).2⟩)
   clear h c
   refine gV ?_
   exact zW
  .rw [decide_eq_false h1] at g
   have c:false=r:=by rw [<-c,decide_eq_false fun e=>h1 (Dt e).1]
   subst c
   clear h next
   refine gV ?_
   exact zW
theorem aIn (a b:List Rn) (hs:Sm a):aA Tryz.prog 47 [.slice 14 (rav a) .no,.slice 14 (rav b) .no] [] (.ret (.bool (decide (a=b)))) []:=by
 have d:(rav a).length=a.length:=by simp
 have c:(rav b).length=b.length:=by simp
 by_cases h1:a.length=b.length
 .have h:(((rav a).length:Int) !=((rav b).length:Int))=false:=by rw [d,c,h1];simp
  have next:=aAq a b h1 hs _ a.length 0 o_ (show _=decide (a=b) by rw [Bn,Bn])
  generalize decide (a=b)=r at *
  exact c_ Tryz.f47 fun _=>zW
 .have h:(((rav a).length:Int) !=((rav b).length:Int))=true:=by rw [d,c];simp;omega
  rw [decide_eq_false fun e=>h1 (by rw [e])]
  exact c_ Tryz.f47 fun _=>zW
noncomputable abbrev aLk:Func:=Tryz.f48
theorem aB9 (a b:List Nat) (k:a.length=b.length) (hl:a.length<=1048576) (r:Bool):∀ (m i:Nat),i+m=a.length->decide (a.drop i=b.drop i)=r->
  To E aLk (.pure (.ret (.bool r))) (.head (stk aLk 0) [(0,.slice 1 (fv a) .no),(1,.slice 1 (fv b) .no),(5,.int .i64 i)] []):=by
 have h:(fv a).length=a.length:=by simp
 intro m
 induction m with
 | zero=>
  intro i n c
  exact zqya13
 | succ m g=>
  intro i n c
  have f:i<a.length:=o_
  have d:i<b.length:=o_
  rw [Ac f,Ac d] at c
  have j:(fv a)[i]? =some (uu a[i]):=by simp [f]
  have l:(fv b)[i]? =some (uu b[i]):=by simp [d]
  generalize a[i]=u at j c
  generalize b[i]=v at l c
  have next:=g (i+1) o_
  by_cases h1:u=v
  .have o:((u:Int) !=(v:Int))=false:=by simp [h1]
   exact zqya20
  .have o:((u:Int) !=(v:Int))=true:=by simp;omega
   exact zqya23
theorem aJc (a b:List Nat) (hl:a.length<=1048576):aA Tryz.prog 48 [.slice 1 (fv a) .no,.slice 1 (fv b) .no] [] (.ret (.bool (decide (a=b)))) []:=by
 have d:(fv a).length=a.length:=by simp
 have c:(fv b).length=b.length:=by simp
 by_cases h1:a.length=b.length
 .have h:(((fv a).length:Int) !=((fv b).length:Int))=false:=by rw [d,c,h1];simp
  have next:=aB9 a b h1 hl _ a.length 0 o_ (show _=decide (a=b) by rw [Bn,Bn])
  generalize decide (a=b)=r at *
  exact c_ Tryz.f48 fun _=>zW
 .have h:(((fv a).length:Int) !=((fv b).length:Int))=true:=by rw [d,c];simp;omega
  rw [decide_eq_false fun e=>h1 (by rw [e])]
  exact c_ Tryz.f48 fun _=>zW
def TF (a b:Sta):Bool:=(a.now==b.now)&&((a.nxt==b.nxt)&&(C8.sameC a.c b.c&&(decide (a.pend=b.pend)&&(decide (a.run=b.run)&&decide (a.hist=b.hist)))))
theorem aHk:∀ {a b:List Pn},a.map Pn.q=b.map Pn.q->a=b
 | [],[],_=>rfl
 | [],_::_,h=>by cases h
 | _::_,[],h=>by cases h
 | x::a,y::b,h=>by
  obtain ⟨h1,c⟩:=Dt h
  rw [aHk c]
  obtain ⟨⟨_,_,_,⟨_,_,_⟩,_,_,_⟩,_,_⟩:=x
  obtain ⟨⟨_,_,_,⟨_,_,_⟩,_,_,_⟩,_,_⟩:=y
  simp only [Pn.q,Q2.Pend.mk.injEq] at h1
  obtain ⟨rfl,rfl,rfl,rfl,rfl,rfl,rfl,rfl,rfl,rfl,rfl⟩:=h1
  rfl
theorem FH (a b:Sta) (hs:Sm a.run) (n:a.hist.length<=1048576) (r:Bool) (d:TF a b=r):aA Tryz.prog 14 [a.av,b.av] [] (.ret (.bool r)) []:=by
 have h1:=C8.rsame_c a.c b.c
 have m:=Q2.same_ok (a.pend.map Pn.q) (b.pend.map Pn.q)
 rw [show decide (a.pend.map Pn.q=b.pend.map Pn.q)=decide (a.pend=b.pend) from decide_eq_decide.2 ⟨aHk,fun e=>by rw [e]⟩,nR,nR] at m
 have h3:=aIn a.run b.run hs
 have o:=aJc a.hist b.hist n
 unfold TF at d
 generalize C8.sameC a.c b.c=q1 at *
 generalize decide (a.pend=b.pend)=q2 at *
 generalize decide (a.run=b.run)=q3 at *
 generalize decide (a.hist=b.hist)=q4 at *
 have l:(true&&false)=false:=rfl
 have j:(true&&true)=true:=rfl
 cases i:(a.now==b.now) with
 | false=>
  rw [i] at d
  have d:false=r:=d
  subst d
  have k:=i
  have i:=j
  have h:=j
  exact zqya11
 | true=>
  rw [i] at d
  cases h:(a.nxt==b.nxt) with
  | false=>
   rw [h] at d
   have d:false=r:=d
   subst d
   have k:=h
   have h:=j
   exact zqya11
  | true=>
   rw [h] at d
   have k:=l
   cases q1 with
   | false=>
    exact zqya36
   | true=>
    cases q2 with
    | false=>
     exact zqya36
    | true=>
     cases q3 with
     | false=>
      exact zqya36
     | true=>
      have d:q4=r:=d
      subst d
      exact zqya11
theorem FG {c d:Con}:C8.sameC c d=true↔c=d:=by
 obtain ⟨g,b,a,k⟩:=c
 obtain ⟨e,i,h,j⟩:=d
 unfold C8.sameC
 rw [sB (f:=Nod.eqb) (fun _ _=>Nod.eqb_eq),sB (f:=Hos.eqb) (fun _ _=>Hos.eqb_eq)]
 simp
theorem BQ (a:Sta):TF a a=true:=by
 unfold TF
 rw [FG.2 rfl]
 simp
theorem aIi (x y:Rn):aA Tryz.prog 94 [x.av,y.av] [] (.ret (.bool (decide (x=y)))) []:=by
 have q:=aGk x.hs y.hs
 have a:(true&&true)=true:=rfl
 have n:(true&&false)=false:=rfl
 by_cases h1:x.g=y.g
 .have p:Gan.eqb x.g y.g=true:=Gan.eqb_eq.2 h1
  by_cases i:x.seq=y.seq
  .have m:(x.seq==y.seq)=true:=by simpa using i
   by_cases h3:x.at'=y.at'
   .have l:(x.at'==y.at')=true:=by simpa using h3
    by_cases c:x.st=y.st
    .have k:(x.st==y.st)=true:=by simpa using c
     by_cases d:x.fl=y.fl
     .have b:(x.fl==y.fl)=true:=by simpa using d
      have j:=n
      have o:decide (x.hs=y.hs)=decide (x=y):=by
       obtain ⟨z,v,D,F,w,s⟩:=x
       obtain ⟨u,H,G,B,C,t⟩:=y
       dsimp only at h1 i h3 c d
       subst h1 i h3 c d
       simp
      rw [o] at q
      generalize decide (x=y)=r at *
      exact zqya14
     .have j:(x.fl==y.fl)=false:=by simpa using d
      have b:=a
      rw [decide_eq_false fun e=>d (by rw [e])]
      exact zqya14
    .have j:(x.st==y.st)=false:=by simpa using c
     have k:=a
     have b:=a
     rw [decide_eq_false fun e=>c (by rw [e])]
     exact zqya14
   .have j:(x.at'==y.at')=false:=by simpa using h3
    have l:=a
    have k:=a
    have b:=a
    rw [decide_eq_false fun e=>h3 (by rw [e])]
    exact zqya14
  .have j:(x.seq==y.seq)=false:=by simpa using i
   have m:=a
   have l:=a
   have k:=a
   have b:=a
   rw [decide_eq_false fun e=>i (by rw [e])]
   exact zqya14
 .have j:Gan.eqb x.g y.g=false:=by
   cases h:Gan.eqb x.g y.g with
   | false=>rfl
   | true=>exact absurd (Gan.eqb_eq.1 h) h1
  have p:=a
  have m:=a
  have l:=a
  have k:=a
  have b:=a
  rw [decide_eq_false fun e=>h1 (by rw [e])]
  exact zqya14
noncomputable abbrev aLn:Func:=Tryz.f93
def sdF:AVal:=.func (.func 94) [] []
theorem aCT (a b:List Rn) (n:a.length=b.length) (hl:a.length<=1048576) (K:Int) (q:K=((rav a).length:Nat)) (r:Bool):∀ (m i:Nat),i+m=a.length->decide (a.drop i=b.drop i)=r->
  To E aLn (.pure (.ret (.bool r))) (.head (stk aLn 0) [(1,.slice 14 (rav b) .no),(2,sdF),(15,.slice 14 (rav a) .no),(16,.int .i64 K),(17,.int .i64 i)] []):=by
 have k:(rav a).length=a.length:=by simp
 have h:(rav b).length=b.length:=by simp
 intro m
 induction m with
 | zero=>
  intro i p c
  exact zqya13
 | succ m j=>
  intro i p c
  have f:i<a.length:=o_
  have d:i<b.length:=o_
  rw [Ac f,Ac d] at c
  have l:=bN f
  have o:=bN d
  have g:=aIi a[i] b[i]
  generalize a[i]=u at l c g
  generalize b[i]=v at o c g
  have next:=j (i+1) o_
  unfold sdF at next⊢
  by_cases h1:u=v
  .rw [decide_eq_true h1] at g
   have next:=next (by rw [<-c,h1];exact decide_eq_decide.2 ⟨fun e=>by rw [e],fun e=>(Dt e).2⟩)
   clear j c
   refine gV ?_
   exact zW
  .rw [decide_eq_false h1] at g
   have c:false=r:=by rw [<-c,decide_eq_false fun e=>h1 (Dt e).1]
   subst c
   clear j next
   refine gV ?_
   exact zW
theorem aJK (a b:List Rn) (hl:a.length<=1048576):aA Tryz.prog 93 [.slice 14 (rav a) .no,.slice 14 (rav b) .no,sdF] [] (.ret (.bool (decide (a=b)))) []:=by
 have d:(rav a).length=a.length:=by simp
 have c:(rav b).length=b.length:=by simp
 by_cases h1:a.length=b.length
 .have h:(((rav a).length:Int) !=((rav b).length:Int))=false:=by rw [d,c,h1];simp
  have next:=aCT a b h1 hl _ rfl _ a.length 0 o_ (show _=decide (a=b) by rw [Bn,Bn])
  generalize decide (a=b)=r at *
  unfold sdF at next⊢
  exact zqya21
 .have h:(((rav a).length:Int) !=((rav b).length:Int))=true:=by rw [d,c];simp;omega
  rw [decide_eq_false fun e=>h1 (by rw [e])]
  exact zqya21
def aDn (c d:Con):Bool:=C8.eqL Nod.eqb c.ns d.ns&&(C8.eqL Hos.eqb c.hs d.hs&&(c.half==d.half&&c.age==d.age))
theorem RQ (c d:Con) (R:Bool) (a:aDn c d=R):aA Tryz.prog 74 [c.av,d.av] [] (.ret (.bool R)) []:=by
 have h1:=C8.eqN_ok c.ns d.ns
 have e:=C8.eqH_ok c.hs d.hs
 unfold aDn at a
 generalize C8.eqL Nod.eqb c.ns d.ns=q1 at h1 a
 generalize C8.eqL Hos.eqb c.hs d.hs=q2 at e a
 cases q1 with
 | false=>
  have a:false=R:=a
  exact zqya18
 | true=>
  cases q2 with
  | false=>
   have a:false=R:=a
   exact zqya18
  | true=>
   have a:(c.half==d.half&&c.age==d.age)=R:=a
   cases b:c.half==d.half with
   | false=>
    rw [b] at a
    have a:false=R:=a
    exact zqya18
   | true=>
    rw [b] at a
    have a:(c.age==d.age)=R:=a
    exact zqya18
theorem aDm {c d:Con}:aDn c d=true↔c=d:=FG
def aAp (a b:Sta):Bool:=aDn a.c b.c&&((a.now==b.now)&&((a.nxt==b.nxt)&&(decide (a.run=b.run)&&(decide (a.pend=b.pend)&&decide (a.hist=b.hist)))))
theorem FA (a b:Sta) (hl:a.run.length<=1048576) (r:Bool) (d:aAp a b=r):aA Tryz.prog 35 [a.av,b.av] [] (.ret (.bool r)) []:=by
 have h1:=RQ a.c b.c _ rfl
 have o:=aGj a.pend b.pend
 have h3:=aJK a.run b.run hl
 have n:=aGl a.hist b.hist
 unfold aAp at d
 generalize aDn a.c b.c=q1 at *
 generalize decide (a.pend=b.pend)=q2 at *
 generalize decide (a.run=b.run)=q3 at *
 generalize decide (a.hist=b.hist)=q4 at *
 have l:(true&&true)=true:=rfl
 have e:(true&&false)=false:=rfl
 cases q1 with
 | false=>
  have d:false=r:=d
  subst d
  have j:=l
  have m:=e
  have k:=e
  exact zqya6
 | true=>
  have d:((a.now==b.now)&&((a.nxt==b.nxt)&&(q3&&(q2&&q4))))=r:=d
  cases h:(a.now==b.now) with
  | false=>
   rw [h] at d
   have d:false=r:=d
   subst d
   have j:(a.now !=b.now)=true:=by unfold bne;rw [h];rfl
   have m:=e
   have k:=e
   exact zqya6
  | true=>
   rw [h] at d
   have m:(a.now !=b.now)=false:=by unfold bne;rw [h];rfl
   cases i:(a.nxt==b.nxt) with
   | false=>
    rw [i] at d
    have d:false=r:=d
    subst d
    have j:(a.nxt !=b.nxt)=true:=by unfold bne;rw [i];rfl
    have k:=e
    exact zqya6
   | true=>
    rw [i] at d
    have k:(a.nxt !=b.nxt)=false:=by unfold bne;rw [i];rfl
    have j:=l
    cases q3 with
    | false=>
     have d:false=r:=d
     subst d
     exact zqya6
    | true=>
     cases q2 with
     | false=>
      have d:false=r:=d
      subst d
      exact zqya6
     | true=>
      have d:q4=r:=d
      subst d
      exact zqya6
theorem aAo {a b:Sta}:aAp a b=true↔a=b:=by
 obtain ⟨n,l,q,r,m,i⟩:=a
 obtain ⟨k,t,s,o,p,j⟩:=b
 unfold aAp
 simp only [Ag,aDm,beq_iff_eq,decide_eq_true_eq,Sta.mk.injEq]
 constructor
 .rintro ⟨h,e,c,f,g,d⟩
  exact ⟨h,e,c,g,f,d⟩
 .rintro ⟨h,e,c,g,f,d⟩
  exact ⟨h,e,c,f,g,d⟩
def ZP:V3:=⟨4,4,4⟩
def aKl:Con:=⟨[⟨-1,1,ZP,V3.zero,V3.zero⟩],[⟨0,0,0,ZP⟩],1,0⟩
def aHR:Gan:=⟨1,0,1,ZP,3,0,0⟩
def KA (n:Int):Cmd:=⟨5,aGL,Gan.zero,n⟩
def KB:List Cmd:=[⟨1,aKl,Gan.zero,0⟩,⟨2,aGL,aHR,0⟩,⟨2,aGL,aHR,0⟩,⟨6,aGL,Gan.zero,0⟩,KA 2]
def wS:Sta:=⟨aKl,2,2,[],[⟨aHR,1,0,0,0,[0]⟩],[8589934592]⟩
def wX:Sta:=(gB wS 1).1
theorem aHa:nQ KB uS []=(wS,[0,0,5,0,0]):=by decide+kernel
theorem aLL:bQ wS (KA 1)=(wX,[⟨3,1,0⟩],0):=by decide+kernel
theorem aHQ:wX.run=[]:=by decide+kernel
theorem wNe:aAp wX wS=false:=by decide+kernel
def OkL (s:Sta) (l:List Cmd):Prop:=OkT s/\s.nxt+(l.length:Int)<=1099511627776/\∀ x∈l,x.k=1->x.c.sm
theorem qO:∀ s x l,OkL s (x::l)->pO s x (bQ s x)/\OkL (bQ s x).1 l:=by
 intro s x l ⟨h1,a,h3⟩
 rw [Bq] at a
 obtain ⟨b,e,d⟩:=h1.apply o_ x
 exact ⟨wN s x (h1.ok.st h1.lt) (h3 x (Ax ..)),b,by omega,fun y c=>h3 y (Bd _ c)⟩
theorem CG {l:List Cmd} (h:l.length<=1000000) (b:∀ x∈l,x.c.sm):OkL uS l:=⟨aEs,by show (1:Int)+_<=_;omega,fun x a _=>b x a⟩
theorem wSm:∀ x∈KB,x.c.sm:=by
 intro x a
 refine ⟨?_,?_⟩<;>(revert x;decide)
theorem ZO:aA Tryz.prog 16 [.slice 15 (cmv KB) .no] [] (.ret (.tup [wS.av,.slice 1 (iv [0,0,5,0,0]) .no])) []:=by
 have h:=KX KB d_ OkL qO (CG d_ wSm)
 rw [aHa] at h
 exact h
theorem wOk:OkT wS:=by
 have key:∀ (l:List Cmd) (s:Sta) (es:List Int),OkL s l->OkT (nQ l s es).1:=fun l=>by
  induction l with
  | nil=>intro s es h;exact h.1
  | cons x l a=>intro s es h;exact a _ _ (qO s x l h).2
 have h:=key KB uS [] (CG d_ wSm)
 rw [aHa] at h
 exact h
theorem aD8:pO wS (KA 1) (wX,[⟨3,1,0⟩],0):=by
 have h:=wN wS (KA 1) (wOk.ok.st wOk.lt) (fun h=>(by cases h))
 rw [aLL] at h
 exact h
theorem pE:aA Tryz.prog 12 [] [] (.ret (.bool true)) []:=by
 have h1:=ZO
 have b:aA Tryz.prog 13 [wS.av,(KA 1).av] [] (.ret (.tup [wX.av,.slice 3 (evv [⟨3,1,0⟩]) .no,ii 0])) []:=aD8
 have h3:=TA
 have d:=FA wX wX (by rw [aHQ];decide) true (aAo.2 rfl)
 have a:=FA wX wS (by rw [aHQ];decide) false wNe
 have c:(((rav wX.run).length:Int)==0)=true:=by rw [aHQ];rfl
 refine c_ Tryz.f12 fun _=>?_
 repeat' first | (refine gN hE ?_;conv=>whnf) | refine .pure _ [] (aA.strip h1) ?_ | refine .pure _ [] b ?_ | refine .pure _ [] h3 ?_ | refine .pure _ [] d ?_ | refine .pure _ [] a ?_ | refine Aa (fun _=>?_) (fun h=>absurd (c.symm.trans h) d_) | exact rfl | refine aY ?_ | refine aN ?_ | refine aT fun h=>?_ | refine aF fun h=>?_ | refine ⟨fun h=>?_,fun h=>?_⟩ | refine aJ ?_ | refine ⟨_,rfl,?_⟩ | refine aD ?_ | fail
theorem SB (s:Sta) (x:Cmd) (m:s.c.sm) (hs:Sm s.run) (hp:s.pend.length<=1048576) (k:LtF s.hist) (a:x.c.sm) (l: -9223372036854775808<=x.n/\x.n<=9223372036854775807):aA Tryz.prog 4 [s.av,x.av] [] (.ret (.bool true)) []:=by
 have u:=pE
 have h1:=QU s m hs hp _ rfl
 by_cases q:DI s=0
 .rw [q] at h1
  exact zqya25
 have y:(DI s==0)=false:=beq_eq_false_iff_ne.2 q
 have hst:=(aJB q).st k
 generalize DI s=w at *
 cases d:decide (x.c.ns.length+x.c.hs.length<=500) with
 | false=>
  have h:=rN x _ d a
  exact zqya25
 | true=>
  have h:=rN x _ d a
  have r:=wN s x hst (fun _=>a)
  have j:=HG s x hst (fun _=>a) l
  obtain ⟨o,i,v⟩:=aIU hst hs x (fun _=>a)
  have p:=FH _ _ o i true (BQ (bQ s x).1)
  have b:=aJJ (bQ s x).2.1 (bQ s x).2.1 o_
  rw [decide_eq_true rfl] at b
  unfold apC at j
  unfold pO at r
  generalize bQ s x=R at *
  obtain ⟨S,ev,e⟩:=R
  have t:(e==e)=true:=beq_self_eq_true e
  exact zqya25
noncomputable abbrev fSP:Func:=Tryz.f5
theorem aEv (L:List Cmd) (S:Sta) (hs:Sm S.run) (c:S.hist.length<=1048576) (es:List Int) (hl:es.length<=1048576):∀ (m k:Nat),k+m=es.length->
  To (Eo [4] [36,37,6]) fSP (.pure (.ret (.bool true))) (.head (stk fSP 1) [(3,.ref 0 0),(4,.slice 1 (iv es) (.own 1 0)),(7,.ref 2 0),(8,.slice 1 (iv es) .no),(9,ii k)] [nL S,.tail 0 1 3,nL S]):=by
 have b:(iv es).length=es.length:=by simp
 have g:=pE
 have d:=FH S S hs c true (BQ S)
 intro m
 induction m with
 | zero=>
  intro k f
  refine gV ?_
  exact zW
 | succ m e=>
  intro k f
  have a:k<es.length:=o_
  have get:=bS a
  generalize es[k]=u at get
  have h:(u !=u)=false:=by simp
  have next:=e (k+1) o_
  refine gV ?_
  exact zW
theorem aEw (L:List Cmd) (F:L.length<=60) (y:∀ x∈L,x.c.sm) (v:∀ x∈L,-9223372036854775808<=x.n/\x.n<=9223372036854775807) (R:Sta×List Int)
  (B:aA Tryz.prog 16 [.slice 15 (cmv L) .no] [] (.ret (.tup [R.1.av,.slice 1 (iv R.2) .no])) []) (h1:Sm R.1.run) (q:R.1.hist.length<=1048576) (h3:R.2.length<=1048576):∀ (m i:Nat) (s:Sta) (es:List Int),i+m=L.length->es.length=i->OkL s (L.drop i)->nQ (L.drop i) s es=R->
  To (Eo [4] [36,37,6]) fSP (.pure (.ret (.bool true))) (.head (stk fSP 0) [(0,.slice 15 (cmv L) .no),(3,.ref 0 0),(4,.slice 1 (iv es) (.own 1 0)),(5,ii i)] [nL s,.tail 0 1 3]):=by
 have l:(cmv L).length=L.length:=by simp
 have C:=pE
 intro m
 induction m with
 | zero=>
  intro i s es u p _ a
  rw [Ae o_] at a
  have a:(s,es)=R:=a
  subst a
  have next:=aEv L s h1 q es h3 es.length 0 o_
  have D:(((iv es).length:Int) !=((iv es).length:Int))=false:=by simp
  refine gV ?_
  exact zW
 | succ m h=>
  intro i s es u p g a
  have b:i<L.length:=o_
  have d:=y L[i] (Bb b)
  have e:=v L[i] (Bb b)
  rw [Ac b] at a g
  have get:(cmv L)[i]? =some L[i].av:=by simp [b]
  generalize L[i]=x at a g get d e
  cases j:decide (x.c.ns.length+x.c.hs.length<=500) with
  | false=>
   have o:=rN x _ j d
   clear h a
   refine gV ?_
   exact zW
  | true=>
   have o:=rN x _ j d
   have z:=HG s x (g.1.ok.st g.1.lt) (fun _=>d) e
   unfold apC at z
   have next:=h (i+1) (bQ s x).1 (es++[(bQ s x).2.2]) o_ q_ (qO s x _ g).2 a
   have w:(iv es).length<=1048576:=by simp;omega
   have k:iv (es++[(bQ s x).2.2])=iv es++[ii (bQ s x).2.2]:=by simp
   rw [k] at next
   generalize bQ s x=r at *
   clear h a k
   refine gV ?_
   exact zW
theorem MB:∀ (l:List Cmd) (s:Sta) (es:List Int),(nQ l s es).2.length=es.length+l.length
 | [],s,es=>rfl
 | x::l,s,es=>by
  show (nQ l _ _).2.length=_
  rw [MB]
  simp
  omega
theorem MA:∀ (l:List Cmd) (s:Sta) (es:List Int),OkL s l->OkT (nQ l s es).1
 | [],_,_,h=>h.1
 | x::l,s,es,h=>MA l _ _ (qO s x l h).2
theorem OkT.small {s:Sta} (h:OkT s):Sm s.run/\s.hist.length<=1048576:=by
 have h1:=(h.ok.st h.lt).run
 exact ⟨h1.sm.run,h1.ord.hl⟩
theorem aBp (L:List Cmd) (m:L.length<=1048576) (d:∀ x∈L,x.c.sm) (i:∀ x∈L,-9223372036854775808<=x.n/\x.n<=9223372036854775807):aA Tryz.prog 5 [.slice 15 (cmv L) .no] [] (.ret (.bool true)) []:=by
 have b:(cmv L).length=L.length:=by simp
 have j:=pE
 by_cases q:60<L.length
 .exact zqya26
 .have a:=CG (l:=L) o_ d
  have hp:=KX L o_ OkL qO a
  obtain ⟨h,e⟩:=(MA L uS [] a).small
  have h3:=MB L uS []
  have next:=aEw L o_ d i (nQ L uS []) hp h e (by rw [h3];simp;omega) L.length 0 uS [] o_ rfl (by rw [Bn];exact a) (by rw [Bn])
  have k:=aER
  exact zqya26
open Go.ChangeShapes Go.WideShapes Go.ChangeAt Go.RowKit
set_option maxRecDepth 100000
theorem aDB {H:Type} (d:DataW H):1<=Rows.uptoBulk d:=by
 cases d with
 | lit l=>cases l<;>simp [Rows.uptoBulk]
 | _=>simp [Rows.uptoBulk]
theorem xZ {H:Type} {d:DataW H}:∀ {l:List (DataW H)},d∈l->Rows.uptoBulk d<=Rows.uptoBulkAll l
 | [],h=>by cases h
 | x::r,h=>by
  simp only [Rows.uptoBulkAll]
  rcases Au.1 h with rfl | h
  .omega
  .have:=xZ h
   omega
theorem OB {H:Type}:∀ (l:List (DataW H)),l.length<=Rows.uptoBulkAll l
 | []=>by simp
 | x::r=>by
  have:=aDB x
  have:=OB r
  simp only [Rows.uptoBulkAll,Bq]
  omega
theorem aDC (H:Type) (N:Nat):Bulk H N (fun d=>Rows.uptoBulk d<=N) where
 str l h:=by
  simp only [Rows.uptoBulk] at h
  omega
 sl e r h:=by
  simp only [Rows.uptoBulk] at h
  have:=OB e
  exact ⟨by omega,fun d hd=>by have:=xZ hd;omega⟩
 agg l h:=by
  simp only [Rows.uptoBulk] at h
  exact fun d hd=>by have:=xZ hd;omega
section
variable {N:Nat}
theorem aH1 {n:Nat} {cs:List AVal} (h:TyN Tryz.prog N (n+1) 3 cs):∃ m:Int,cs=[ii m]/\ -9223372036854775808<=m/\m<=9223372036854775807:=by
 unfold TyN at h
 rw [Tryz.underlying3] at h
 obtain ⟨m,h,h1,a⟩:=h
 simp only [bO,bA] at h1 a
 exact ⟨m,h,by omega,by omega⟩
theorem eF {n:Nat} {cs:List AVal} (h:TyN Tryz.prog N (n+1) 3 cs):∃ m:Int,cs=[ii m]:=by
 unfold TyN at h
 rw [Tryz.underlying3] at h
 obtain ⟨m,h,_⟩:=h
 exact ⟨m,h⟩
theorem KO {n:Nat} {cs:List AVal} (h:TyN Tryz.prog N (n+2) 34 cs):∃ v:V3,cs=v.cs:=by
 unfold TyN at h
 rw [Tryz.underlying34] at h
 obtain ⟨xs,hl,d,rfl⟩:=h
 match xs,hl,d with
 | [x,y,z],_,d=>
  obtain ⟨a,rfl⟩:=eF (d x s_)
  obtain ⟨b,rfl⟩:=eF (d y s_)
  obtain ⟨c,rfl⟩:=eF (d z s_)
  exact ⟨⟨a,b,c⟩,rfl⟩
theorem OZ {n:Nat} {cs:List AVal} (h:TyN Tryz.prog N (n+3) 36 cs):∃ g:Gan,cs=g.cs:=by
 unfold TyN at h
 rw [Tryz.underlying36] at h
 obtain ⟨s,r,rfl,d,w,r,rfl,h1,x,r,rfl,e,o,r,rfl,h3,q,r,rfl,b,p,r,rfl,c,u,r,rfl,m,rfl⟩:=h
 obtain ⟨k,rfl⟩:=eF d
 obtain ⟨j,rfl⟩:=eF h1
 obtain ⟨f,rfl⟩:=eF e
 obtain ⟨v,rfl⟩:=KO h3
 obtain ⟨l,rfl⟩:=eF b
 obtain ⟨i,rfl⟩:=eF c
 obtain ⟨a,rfl⟩:=eF m
 exact ⟨⟨k,j,f,v,l,i,a⟩,rfl⟩
theorem zD {α:Type} {av:α->AVal} {P:AVal->Prop} {Q:α->Prop} (b:∀ x,P x->∃ p:α,x=av p/\Q p):∀ (xs:List AVal),(∀ x∈xs,P x)->∃ l:List α,xs=l.map av/\∀ p∈l,Q p
 | [],_=>⟨[],rfl,fun p h=>by cases h⟩
 | x::xs,h=>by
  obtain ⟨p,rfl,hp⟩:=b x (h x s_)
  obtain ⟨l,rfl,hl⟩:=zD b xs fun x c=>h x (by simp [c])
  exact ⟨p::l,rfl,fun q a=>by
   rcases Au.1 a with rfl | a
   .exact hp
   .exact hl q a⟩
theorem aH0 {n:Nat} {cs:List AVal} (h:TyN Tryz.prog N (n+2) 53 cs):∃ l:List Int,cs=[.slice 1 (iv l) .no]/\l.length<=N:=by
 unfold TyN at h
 rw [Tryz.underlying53] at h
 obtain ⟨xs,rfl,c,b⟩:=h
 have d:Tryz.prog.cellsOf 3=1:=by kernel_rfl
 have f:aO Tryz.prog 3=false:=by kernel_rfl
 obtain ⟨l,rfl,_⟩:=zD (av:=fun m:Int=>ii m) (Q:=fun _=>True) (P:=fun x=>x∈xs) (fun x hm=>by
  obtain ⟨m,e⟩:=eF (n:=n) (b x hm).1
  have a:=(b x hm).2.2 f
  rw [e] at a
  exact ⟨m,(Dt a).1.symm,trivial⟩) xs fun x hm=>hm
 exact ⟨l,by rw [d],by simpa using c⟩
theorem aKn {n:Nat} {cs:List AVal} (h:TyN Tryz.prog N (n+4) 127 cs):∃ x:Rn,cs=x.cs/\x.hs.length<=N:=by
 unfold TyN at h
 rw [Tryz.underlying127] at h
 obtain ⟨p,r,rfl,c,q,r,rfl,h1,s,r,rfl,d,k,r,rfl,h3,o,r,rfl,a,m,r,rfl,b,rfl⟩:=h
 obtain ⟨g,rfl⟩:=OZ c
 obtain ⟨f,rfl⟩:=eF h1
 obtain ⟨e,rfl⟩:=eF d
 obtain ⟨i,rfl⟩:=eF h3
 obtain ⟨j,rfl⟩:=eF a
 obtain ⟨l,rfl,hl⟩:=aH0 (n:=n+1) b
 exact ⟨⟨g,f,e,i,j,l⟩,rfl,hl⟩
end
section
variable {N:Nat}
theorem aHZ {n:Nat} {cs:List AVal} (h:TyN Tryz.prog N (n+3) 80 cs):∃ x:Nod,cs=x.cs:=by
 unfold TyN at h
 rw [Tryz.underlying80] at h
 obtain ⟨i,r,rfl,b,j,r,rfl,h1,k,r,rfl,c,f,r,rfl,h3,g,r,rfl,a,rfl⟩:=h
 obtain ⟨e,rfl⟩:=eF b
 obtain ⟨d,rfl⟩:=eF h1
 obtain ⟨u,rfl⟩:=KO c
 obtain ⟨v,rfl⟩:=KO h3
 obtain ⟨w,rfl⟩:=KO a
 exact ⟨⟨e,d,u,v,w⟩,rfl⟩
theorem aH2 {n:Nat} {cs:List AVal} (h:TyN Tryz.prog N (n+3) 82 cs):∃ x:Hos,cs=x.cs:=by
 unfold TyN at h
 rw [Tryz.underlying82] at h
 obtain ⟨g,r,rfl,a,j,r,rfl,h1,f,r,rfl,b,i,r,rfl,h3,rfl⟩:=h
 obtain ⟨e,rfl⟩:=eF a
 obtain ⟨d,rfl⟩:=eF h1
 obtain ⟨c,rfl⟩:=eF b
 obtain ⟨v,rfl⟩:=KO h3
 exact ⟨⟨e,d,c,v⟩,rfl⟩
theorem aEj {n:Nat} {cs:List AVal} (h:TyN Tryz.prog N (n+4) 23 cs):∃ l:List Nod,cs=[.slice 11 (nav l) .no]/\l.length<=N:=by
 unfold TyN at h
 rw [Tryz.underlying23] at h
 obtain ⟨xs,rfl,c,a⟩:=h
 have b:Tryz.prog.cellsOf 80=11:=by kernel_rfl
 obtain ⟨l,rfl,hl⟩:=zD (av:=Nod.av) (Q:=fun x=>True) (P:=fun x=>x∈xs) (fun x hm=>by
  obtain ⟨cs,rfl⟩:=(a x hm).2.1 (by kernel_rfl)
  obtain ⟨p,hp⟩:=aHZ (n:=n) (a _ hm).1
  exact ⟨p,by unfold Nod.av;rw [<-hp];rfl,trivial⟩) xs fun x hm=>hm
 exact ⟨l,by rw [b],by simpa using c⟩
theorem aEk {n:Nat} {cs:List AVal} (h:TyN Tryz.prog N (n+4) 24 cs):∃ l:List Hos,cs=[.slice 6 (hav l) .no]/\l.length<=N:=by
 unfold TyN at h
 rw [Tryz.underlying24] at h
 obtain ⟨xs,rfl,c,a⟩:=h
 have b:Tryz.prog.cellsOf 82=6:=by kernel_rfl
 obtain ⟨l,rfl,hl⟩:=zD (av:=Hos.av) (Q:=fun x=>True) (P:=fun x=>x∈xs) (fun x hm=>by
  obtain ⟨cs,rfl⟩:=(a x hm).2.1 (by kernel_rfl)
  obtain ⟨p,hp⟩:=aH2 (n:=n) (a _ hm).1
  exact ⟨p,by unfold Hos.av;rw [<-hp];rfl,trivial⟩) xs fun x hm=>hm
 exact ⟨l,by rw [b],by simpa using c⟩
theorem aHe {n:Nat} {cs:List AVal} (h:TyN Tryz.prog 1048576 (n+5) 26 cs):∃ c:Con,cs=c.cs/\c.sm:=by
 unfold TyN at h
 rw [Tryz.underlying26] at h
 obtain ⟨i,r,rfl,a,j,r,rfl,h1,k,r,rfl,b,g,r,rfl,h3,rfl⟩:=h
 obtain ⟨ns,rfl,e⟩:=aEj (n:=n) a
 obtain ⟨hs,rfl,l1⟩:=aEk (n:=n) h1
 obtain ⟨d,rfl⟩:=eF b
 obtain ⟨f,rfl⟩:=eF h3
 exact ⟨⟨ns,hs,d,f⟩,rfl,⟨e,l1⟩⟩
end
theorem aEh {N n:Nat} {cs:List AVal} (a:N<=1048576) (h:TyN Tryz.prog N (n+5) 28 cs):∃ l:List Rn,cs=[.slice 14 (rav l) .no]/\Sm l/\l.length<=N:=by
 unfold TyN at h
 rw [Tryz.underlying28] at h
 obtain ⟨xs,rfl,b,c⟩:=h
 have e:Tryz.prog.cellsOf 127=14:=by kernel_rfl
 obtain ⟨l,rfl,hl⟩:=zD (av:=Rn.av) (Q:=fun x=>x.hs.length<=1048576) (P:=fun x=>x∈xs) (fun x hm=>by
  obtain ⟨cs,rfl⟩:=(c x hm).2.1 (by kernel_rfl)
  obtain ⟨p,hp,d⟩:=aKn (n:=n) (c _ hm).1
  exact ⟨p,by unfold Rn.av;rw [<-hp];rfl,Co d a⟩) xs fun x hm=>hm
 exact ⟨l,by rw [e],⟨Co (by simpa using b) a,hl⟩,by simpa using b⟩
theorem aHY {N n:Nat} {cs:List AVal} (h:TyN Tryz.prog N (n+4) 78 cs):∃ x:Pn,cs=x.cs:=by
 unfold TyN at h
 rw [Tryz.underlying78] at h
 obtain ⟨f,r,rfl,a,i,r,rfl,h1,e,r,rfl,b,rfl⟩:=h
 obtain ⟨g,rfl⟩:=OZ a
 obtain ⟨d,rfl⟩:=eF h1
 obtain ⟨c,rfl⟩:=eF b
 exact ⟨⟨g,d,c⟩,rfl⟩
theorem aEi {N n:Nat} {cs:List AVal} (h:TyN Tryz.prog N (n+5) 27 cs):∃ l:List Pn,cs=[.slice 11 (pnv l) .no]/\l.length<=N:=by
 unfold TyN at h
 rw [Tryz.underlying27] at h
 obtain ⟨xs,rfl,c,a⟩:=h
 have b:Tryz.prog.cellsOf 78=11:=by kernel_rfl
 obtain ⟨l,rfl,_⟩:=zD (av:=Pn.av) (Q:=fun _=>True) (P:=fun x=>x∈xs) (fun x hm=>by
  obtain ⟨cs,rfl⟩:=(a x hm).2.1 (by kernel_rfl)
  obtain ⟨p,hp⟩:=aHY (n:=n) (a _ hm).1
  exact ⟨p,by unfold Pn.av;rw [<-hp];rfl,trivial⟩) xs fun x hm=>hm
 exact ⟨l,by rw [b],by simpa using c⟩
theorem aKo {N n:Nat} {cs:List AVal} (h:TyN Tryz.prog N (n+1) 123 cs):∃ x:Nat,cs=[.int .u64 (x:Int)]/\x<18446744073709551616:=by
 unfold TyN at h
 rw [Tryz.underlying123] at h
 obtain ⟨m,rfl,h1,a⟩:=h
 simp only [bO,bA] at h1 a
 exact ⟨m.toNat,by rw [show ((m.toNat:Nat):Int)=m from by omega],by omega⟩
theorem aH3 {N n:Nat} {cs:List AVal} (h:TyN Tryz.prog N (n+2) 29 cs):∃ l:List Nat,cs=[.slice 1 (fv l) .no]/\l.length<=N/\∀ x∈l,x<18446744073709551616:=by
 unfold TyN at h
 rw [Tryz.underlying29] at h
 obtain ⟨xs,rfl,d,c⟩:=h
 have f:Tryz.prog.cellsOf 123=1:=by kernel_rfl
 have g:aO Tryz.prog 123=false:=by kernel_rfl
 obtain ⟨l,rfl,hl⟩:=zD (av:=fun x:Nat=>.int .u64 (x:Int)) (Q:=fun x=>x<18446744073709551616) (P:=fun x=>x∈xs) (fun x hm=>by
  obtain ⟨m,e,a⟩:=aKo (n:=n) (c x hm).1
  have b:=(c x hm).2.2 g
  rw [e] at b
  exact ⟨m,(Dt b).1.symm,a⟩) xs fun x hm=>hm
 exact ⟨l,by rw [f],by simpa using d,hl⟩
structure StaSm (s:Sta):Prop where
 c:s.c.sm
 pend:s.pend.length<=1048576
 run:Sm s.run
 hist:s.hist.length<=1048576
 fix:∀ x∈s.hist,x<18446744073709551616
theorem aKm {n:Nat} {cs:List AVal} (h:TyN Tryz.prog 1048576 (n+6) 31 cs):∃ s:Sta,cs=s.cs/\StaSm s:=by
 unfold TyN at h
 rw [Tryz.underlying31] at h
 obtain ⟨u,r,rfl,d,v,r,rfl,h1,w,r,rfl,e,o,r,rfl,h3,q,r,rfl,a,p,r,rfl,b,rfl⟩:=h
 obtain ⟨c,rfl,j⟩:=aHe (n:=n) d
 obtain ⟨now,rfl⟩:=eF h1
 obtain ⟨k,rfl⟩:=eF e
 obtain ⟨g,rfl,f⟩:=aEi (n:=n) h3
 obtain ⟨l,rfl,hl,_⟩:=aEh (n:=n) (Ba _) a
 obtain ⟨m,rfl,hz,i⟩:=aH3 (n:=n+3) b
 exact ⟨⟨c,now,k,g,l,m⟩,rfl,j,f,hl,hz,i⟩
structure CmSm (x:Cmd):Prop where
 c:x.c.sm
 n: -9223372036854775808<=x.n/\x.n<=9223372036854775807
theorem aHf {n:Nat} {cs:List AVal} (h:TyN Tryz.prog 1048576 (n+6) 38 cs):∃ x:Cmd,cs=x.cs/\CmSm x:=by
 unfold TyN at h
 rw [Tryz.underlying38] at h
 obtain ⟨f,r,rfl,a,i,r,rfl,h1,j,r,rfl,b,e,r,rfl,h3,rfl⟩:=h
 obtain ⟨k,rfl⟩:=eF a
 obtain ⟨c,rfl,d⟩:=aHe (n:=n) h1
 obtain ⟨g,rfl⟩:=OZ (n:=n+2) b
 obtain ⟨m,rfl,hm⟩:=aH1 h3
 exact ⟨⟨k,c,g,m⟩,rfl,d,hm⟩
section
variable {H:Type} {enc:TypeId×Value->H} {W:World} {r:Reach} {base b0:Nat} {spare:Nat->Bool} {held:Bool} {v:Value} {d:DataW H} {ps:List MemPlace}
theorem aBB (f:Gd Tryz.prog W r b0 31 v) (h:DataW.Trod enc Tryz.prog W base spare held 31 v d ps) (a:Rows.uptoBulk d<=1048576):∃ s:Sta,Rep (Mw W) [] v s.av/\StaSm s:=by
 obtain ⟨e,c,b⟩:=OM (n:=6) (aDC H 1048576) (by kernel_rfl) (by kernel_rfl) f h a
 obtain ⟨s,rfl,hs⟩:=aKm (n:=0) b
 exact ⟨s,c,hs⟩
theorem aBC (f:Gd Tryz.prog W r b0 38 v) (h:DataW.Trod enc Tryz.prog W base spare held 38 v d ps) (g:Rows.uptoBulk d<=1048576):∃ x:Cmd,Rep (Mw W) [] v x.av/\CmSm x:=by
 obtain ⟨e,b,a⟩:=OM (n:=6) (aDC H 1048576) (by kernel_rfl) (by kernel_rfl) f h g
 obtain ⟨x,rfl,c⟩:=aHf (n:=0) a
 exact ⟨x,b,c⟩
theorem XQ (f:Gd Tryz.prog W r b0 22 v) (h:DataW.Trod enc Tryz.prog W base spare held 22 v d ps) (i:Rows.uptoBulk d<=1048576):∃ l:List Cmd,Rep (Mw W) [] v (.slice 15 (cmv l) .no)/\l.length<=1048576/\∀ x∈l,CmSm x:=by
 obtain ⟨xs,a,e,b⟩:=SA (n:=6) (aDC H 1048576) Tryz.underlying22 (by kernel_rfl) f h i
 have g:Tryz.prog.cellsOf 38=15:=by kernel_rfl
 obtain ⟨l,rfl,hl⟩:=zD (av:=Cmd.av) (Q:=CmSm) (P:=fun x=>x∈xs) (fun x hm=>by
  obtain ⟨cs,rfl⟩:=(b x hm).2.1 (by kernel_rfl)
  obtain ⟨p,hp,c⟩:=aHf (n:=0) (b _ hm).1
  exact ⟨p,by unfold Cmd.av;rw [<-hp];rfl,c⟩) xs fun x hm=>hm
 rw [g] at a
 exact ⟨l,a,by simpa using e,hl⟩
end
end Go.Proofs.YticlgfdibfobdaaGreat
