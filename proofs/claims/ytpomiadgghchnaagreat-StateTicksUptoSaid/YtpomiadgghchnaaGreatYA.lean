/-
  Rounds and commands, as walks; the laws.
-/
import Derived.Test.YtpomiadgghchnaaGreatRows
import Derived.Test.YtpomiadgghchnaaGreatDA
set_option linter.all false
set_option maxHeartbeats 1000000
open And renaming intro->Ac
open Bool renaming and_eq_true->Ag,and_false->Ci,eq_iff_iff->Km,false_and->Dz,not_eq_true'->Ef,or_eq_false_iff->Ih,or_eq_true->Fw,true_and->Cb
open Decidable renaming byContradiction->Li,not_not->Gm
open Go.Value renaming okWide->Ei
open Iff renaming rfl->Nd
open Int renaming le_refl->Dr,le_trans->Fo,mul_le_mul_of_nonneg_left->Kk,mul_nonneg->Ji,toNat_natCast->Ck
open List renaming Nodup->Hv,all_cons->Fk,all_eq_true->Ch,any_eq_true->Il,append_assoc->Ai,append_nil->Bg,cons_append->Cd,count_pos_iff->Jd,drop->Hi,drop_eq_getElem_cons->Ad,drop_eq_nil_of_le->Ae,drop_zero->Bt,eraseIdx_append_of_length_le->Gz,eraseIdx_eq_take_drop_succ->Gb,filter_congr->Ll,filter_cons->Hl,filter_cons_of_neg->Et,filter_cons_of_pos->Eu,filter_eq_self->Fu,filter_filter->Lc,filter_sublist->Ix,foldl_append->Jn,foldl_cons->Av,getElem?_eq_getElem->Aa,getElem_mem->Bl,length->Lj,length_append->Aw,length_cons->Bo,length_eq_zero_iff->Br,length_eraseIdx->Kd,length_filter_le->Gd,length_map->Cj,length_pos_iff->Hh,length_singleton->Mm,length_take->Ff,map_append->Bu,map_cons->Bk,map_drop->Ja,map_map->Fg,map_take->Iz,mem_append->Ba,mem_append_left->Dj,mem_append_right->Cu,mem_cons->Bd,mem_cons_of_mem->Bj,mem_cons_self->Ar,mem_filter->Dx,mem_map->Bx,mem_map_of_mem->Cm,mem_range->Gv,mem_reverse->Hk,mem_singleton->Dl,mem_singleton_self->Hj,nodup_append->Bm,nodup_cons->Cc,nodup_nil->Gi,pairwise_cons->Cv,pairwise_iff_getElem->Fh,pairwise_map->Cw,pairwise_singleton->Jg,perm_append_comm->Du,perm_middle->Ep,replicate->Ah,take->Hw,take_append_drop->Bv
open List.Pairwise renaming imp->Jl,nil->Jk
open List.Perm renaming append_left->Dt,append_right->Dq,refl->Jm,trans->Mh
open List.Sublist renaming refl->Jo
open List.cons renaming inj->Em
open Nat renaming add_zero->Dv,le_refl->Au,le_succ->Jh,le_trans->Da,mul_le_mul->Fl,not_lt_zero->Mi,sub_self->Kx,zero_add->Bn,zero_le->Cr
open Option renaming isSome_iff_exists->Dc
open Or renaming inl->Fm
namespace Go.Proofs.YtpomiadgghchnaaGreat
open Go Go.AW Go.Proofs
set_option maxRecDepth 10000
theorem HW (l:List Nod) (h:l.length<=1048576):aA Tryz.prog 63 [.slice 11 (nav l) .no] [] (.ret (.slice 11 (nav l) .no)) []:=by
 have hlen:(nav l).length=l.length:=by simp
 refine cT (E:=E) (fn:=Tryz.f63) (g:=.pure _) fun _=>?_
 refine gV ?_
 intro b hb
 refine gV ?_
 refine ⟨fun h=>?_,fun h=>?_⟩
 .have h:b=true:=h
  have e:nav l=[]:=hb h
  refine gV ?_
  rw [e]
 .have h:b=false:=h
  exact zW
theorem HX (l:List Hos) (h:l.length<=1048576):aA Tryz.prog 143 [.slice 6 (hav l) .no] [] (.ret (.slice 6 (hav l) .no)) []:=by
 have hlen:(hav l).length=l.length:=by simp
 refine cT (E:=E) (fn:=Tryz.f143) (g:=.pure _) fun _=>?_
 refine gV ?_
 intro b hb
 refine gV ?_
 refine ⟨fun h=>?_,fun h=>?_⟩
 .have h:b=true:=h
  have e:hav l=[]:=hb h
  refine gV ?_
  rw [e]
 .have h:b=false:=h
  exact zW
theorem O7 (l:List Pn) (h:l.length<=1048576):aA Tryz.prog 64 [.slice 11 (pnv l) .no] [] (.ret (.slice 11 (pnv l) .no)) []:=by
 have hlen:(pnv l).length=l.length:=by simp
 refine cT (E:=E) (fn:=Tryz.f64) (g:=.pure _) fun _=>?_
 refine gV ?_
 intro b hb
 refine gV ?_
 refine ⟨fun h=>?_,fun h=>?_⟩
 .have h:b=true:=h
  have e:pnv l=[]:=hb h
  refine gV ?_
  rw [e]
 .have h:b=false:=h
  exact zW
theorem O8 (l:List Nat) (h:l.length<=1048576):aA Tryz.prog 144 [.slice 1 (fv l) .no] [] (.ret (.slice 1 (fv l) .no)) []:=by
 have hlen:(fv l).length=l.length:=by simp
 refine cT (E:=E) (fn:=Tryz.f144) (g:=.pure _) fun _=>?_
 refine gV ?_
 intro b hb
 refine gV ?_
 refine ⟨fun h=>?_,fun h=>?_⟩
 .have h:b=true:=h
  have e:fv l=[]:=hb h
  refine gV ?_
  rw [e]
 .have h:b=false:=h
  exact zW
abbrev vM (l:List Rn):List AObj:=[.row 0 14 53 (rav l)]
theorem V9 (l:List Rn) (hs:Sm l) (ids:List Int) (hd:ids.length<=1048576) (R:List Rn):∀ (m i:Nat) (acc:List Rn),i+m=l.length->acc.length<=i->acc++aC (l.drop i) ids=R->
  To (Er [5] []) fWo (.full 0 (.ret (.row 0 0)) (vM R)) (.head (stk fWo 0) [(1,.slice 1 (iv ids) .no),(5,.row 0 0),(8,.slice 14 (rav l) .no),(9,.int .i64 ((rav l).length:Nat)),(10,ii i)] (vM acc)):=by
 have hlen:(rav l).length=l.length:=by simp
 have hl:=hs.1
 intro m
 induction m with
 | zero=>
  intro i acc hi ha hR
  rw [Ae (by omega)] at hR
  have hR:acc++[]=R:=hR
  rw [Bg] at hR
  subst hR
  refine gV ?_
  exact zW
 | succ m ih=>
  intro i acc hi ha hR
  have hlt:i<l.length:=by omega
  have hb:=hs.at hlt
  rw [Ad hlt] at hR
  generalize hq:l[i]=x at hR hb
  have get:(rav l)[i]? =some x.av:=(bN hlt).trans (by rw [hq])
  have hla:(rav acc).length=acc.length:=by simp
  have hc:=CN ids hd x.g.id
  cases hw:inB x.g.id ids with
  | true=>
   rw [hw] at hc
   rw [jG hw] at hR
   have next:=ih (i+1) acc (by omega) (by omega) hR
   refine gV ?_
   exact zW
  | false=>
   rw [hw] at hc
   rw [jF hw] at hR
   have next:=ih (i+1) (acc++[x]) (by omega) (by simp;omega) (by rw [Ai];exact hR)
   have e:rav (acc++[x])=rav acc++[x.av]:=by simp
   unfold vM at next
   rw [e] at next
   refine gV ?_
   have z6_1:=yE x hb
   exact zW
theorem aFK (l:List Rn) (hs:Sm l) (ids:List Int) (hd:ids.length<=1048576):aA Tryz.prog 145 [.slice 14 (rav l) .no,.slice 1 (iv ids) .no] [] (.ret (.row 0 0)) (vM (aC l ids)):=by
 have h1:=V9 l hs ids hd _ l.length 0 [] (by omega) (by simp) rfl
 refine cT (E:=(Er [5] [])) (fn:=Tryz.f145) (g:=.full 0 _ _) fun _=>?_
 exact zW
theorem aBW (l:List Rn) (hs:Sm l):aA Tryz.prog 145 [.slice 14 (rav l) .no,.nilslice] [] (.ret (.row 0 0)) (vM l):=by
 have h:=aFK l hs [] (by simp)
 rw [fH] at h
 exact aA.nil2 h
abbrev JO:List AObj:=[.tail 0 14 53]
theorem WH (l:List Rn) (hs:Sm l) (ids:List Int) (hd:ids.length<=1048576) (R:List Rn):∀ (m i:Nat) (acc:List Rn),i+m=l.length->acc.length<=i->acc++aC (l.drop i) ids=R->
  To (Eo [5] []) fWo (.full 0 (.ret (.slice 14 (rav R) (.own 0 0))) JO) (.head (stk fWo 0) [(1,.slice 1 (iv ids) .no),(5,.slice 14 (rav acc) (.own 0 0)),(8,.slice 14 (rav l) .no),(9,.int .i64 ((rav l).length:Nat)),(10,ii i)] JO):=by
 have hlen:(rav l).length=l.length:=by simp
 have hl:=hs.1
 intro m
 induction m with
 | zero=>
  intro i acc hi ha hR
  rw [Ae (by omega)] at hR
  have hR:acc++[]=R:=hR
  rw [Bg] at hR
  subst hR
  refine gV ?_
  exact zW
 | succ m ih=>
  intro i acc hi ha hR
  have hlt:i<l.length:=by omega
  have hb:=hs.at hlt
  rw [Ad hlt] at hR
  generalize hq:l[i]=x at hR hb
  have get:(rav l)[i]? =some x.av:=(bN hlt).trans (by rw [hq])
  have hla:(rav acc).length=acc.length:=by simp
  have hc:=CN ids hd x.g.id
  cases hw:inB x.g.id ids with
  | true=>
   rw [hw] at hc
   rw [jG hw] at hR
   have next:=ih (i+1) acc (by omega) (by omega) hR
   refine gV ?_
   exact zW
  | false=>
   rw [hw] at hc
   rw [jF hw] at hR
   have next:=ih (i+1) (acc++[x]) (by omega) (by simp;omega) (by rw [Ai];exact hR)
   have e:rav (acc++[x])=rav acc++[x.av]:=by simp
   rw [e] at next
   refine gV ?_
   have z10_1:=yE x hb
   exact zW
theorem WG (l:List Rn) (hs:Sm l) (ids:List Int) (hd:ids.length<=1048576):aA Tryz.prog 145 [.slice 14 (rav l) .no,.slice 1 (iv ids) .no] [] (.ret (.slice 14 (rav (aC l ids)) (.own 0 0))) JO:=by
 have h1:=WH l hs ids hd _ l.length 0 [] (by omega) (by simp) rfl
 refine cT (E:=(Eo [5] [])) (fn:=Tryz.f145) (g:=.full 0 _ _) fun _=>?_
 exact zW
theorem aBX (l:List Rn) (hs:Sm l):aA Tryz.prog 145 [.slice 14 (rav l) .no,.nilslice] [] (.ret (.slice 14 (rav l) (.own 0 0))) JO:=by
 have h:=WG l hs [] (by simp)
 rw [fH] at h
 exact aA.nil2 h
structure StaSm' (s:Sta):Prop where
 ns:s.c.ns.length<=1048576
 hs:s.c.hs.length<=1048576
 pend:s.pend.length<=1048576
 run:Sm s.run
 hist:s.hist.length<=1048576
def Sta.avR (s:Sta) (k g:Nat):AVal:=.agg [.slice 11 (nav s.c.ns) .no,.slice 6 (hav s.c.hs) .no,ii s.c.half,ii s.c.age,ii s.now,ii s.nxt,.slice 11 (pnv s.pend) .no,.row k g,.slice 1 (fv s.hist) .no]
def Sta.avO (s:Sta) (k g:Nat):AVal:=.agg [.slice 11 (nav s.c.ns) .no,.slice 6 (hav s.c.hs) .no,ii s.c.half,ii s.c.age,ii s.now,ii s.nxt,.slice 11 (pnv s.pend) .no,.slice 14 (rav s.run) (.own k g),.slice 1 (fv s.hist) .no]
theorem aEM (s:Sta) (h:StaSm' s):aA Tryz.prog 160 [s.av] [] (.ret (s.avO 0 0)) JO:=by
 have h1:=HW s.c.ns h.ns
 have h2:=HX s.c.hs h.hs
 have h3:=O7 s.pend h.pend
 have h4:=O8 s.hist h.hist
 have h5:=aBX s.run h.run
 refine cT (E:=E) (fn:=Tryz.f160) (g:=.full 0 _ _) fun _=>?_
 exact zW
theorem yH (s:Sta) (h:StaSm' s):aA Tryz.prog 68 [s.av] [] (.ret (s.avR 0 0)) (vM s.run):=by
 have h1:=HW s.c.ns h.ns
 have h2:=HX s.c.hs h.hs
 have h3:=O7 s.pend h.pend
 have h4:=O8 s.hist h.hist
 have h5:=aBW s.run h.run
 refine cT (E:=E) (fn:=Tryz.f68) (g:=.full 0 _ _) fun _=>?_
 exact zW
abbrev rdC (r:Rd) (run:AVal) (ge:Nat):List AVal:=[.slice 11 (nav r.s.c.ns) .no,.slice 6 (hav r.s.c.hs) .no,ii r.s.c.half,ii r.s.c.age,ii r.s.now,ii r.s.nxt,.slice 11 (pnv r.s.pend) .no,run,.slice 1 (fv r.s.hist) .no,.slice 3 (evv r.ev) (.own 1 ge),.bool r.head,ii r.start]
abbrev rdO (r:Rd) (run:AVal) (ge:Nat):AObj:=.cells 235 (rdC r run ge)
abbrev evT (g:Nat):AObj:=.tail g 3 55
abbrev ruT (g:Nat):AObj:=.tail g 14 53
abbrev ruV (l:List Rn) (k g:Nat):AVal:=.slice 14 (rav l) (.own k g)
abbrev rdS (r:Rd) (ge gr:Nat):List AObj:=[rdO r (ruV r.s.run 2 gr) ge,evT ge,ruT gr]
def kS (r:Rd) (e:Ev):Rd:=⟨r.s,r.ev++[e],r.head,r.start⟩
theorem GU (r:Rd) (k id n:Int) (hl:r.ev.length<=1048576):aA Tryz.prog 251 [.ref 0 0,ii k,ii id,ii n] (rdS r 0 0) (.ret (.tup [])) (rdS (kS r ⟨k,id,n⟩) 1 0):=by
 have hle:(evv r.ev).length=r.ev.length:=by simp
 have e:evv (r.ev++[⟨k,id,n⟩])=evv r.ev++[Ev.av ⟨k,id,n⟩]:=by simp
 unfold kS
 show aA _ _ _ _ _ [.cells _ [_,_,_,_,_,_,_,_,_,.slice 3 (evv (r.ev++[⟨k,id,n⟩])) (.own 1 1),_,_],_,_]
 rw [e]
 refine cT (E:=E) (fn:=Tryz.f251) (g:=.full 3 _ _) fun _=>?_
 exact zW
theorem J9 (r:Rd) (l:List Rn) (k id n:Int) (hl:r.ev.length<=1048576):aA Tryz.prog 251 [.ref 0 0,ii k,ii id,ii n] [rdO r (.slice 14 (rav l) .no) 0,evT 0] (.ret (.tup [])) [rdO (kS r ⟨k,id,n⟩) (.slice 14 (rav l) .no) 1,evT 1]:=by
 have hle:(evv r.ev).length=r.ev.length:=by simp
 have e:evv (r.ev++[⟨k,id,n⟩])=evv r.ev++[Ev.av ⟨k,id,n⟩]:=by simp
 unfold kS
 show aA _ _ _ _ _ [.cells _ [_,_,_,_,_,_,_,_,_,.slice 3 (evv (r.ev++[⟨k,id,n⟩])) (.own 1 1),_,_],_]
 rw [e]
 refine cT (E:=E) (fn:=Tryz.f251) (g:=.full 2 _ _) fun _=>?_
 exact zW
theorem aAz {n eb:Nat} (h:n<=1048576) (he:eb<=1000):B0 (n+1) eb:=Ac (by simp only [maxLen];omega) (Da (Fl (show n+1<=1048577 by omega) he) (by decide))
theorem aJs (r:Rd) (p:Pn) (hf:aA Tryz.prog 199 [r.s.c.av,.slice 14 (rav r.s.run) .no,p.g.av] [] (.ret (fdA none)) []):
  aA Tryz.prog 247 [.ref 0 0,p.av] (rdS r 0 0) (.ret (.bool false)) (rdS r 0 0):=by
 obtain ⟨s,ev,head,start⟩:=r
 refine cT (E:=(Er [] [60,64,86,87,88])) (fn:=Tryz.f247) (g:=.full 3 _ _) fun _=>?_
 exact zW
theorem aJu (s:Sta) (ev:List Ev) (start:Int) (p:Pn) (x:Int×List Int) (hf:aA Tryz.prog 199 [s.c.av,.slice 14 (rav s.run) .no,p.g.av] [] (.ret (fdA (some x))) [])
  (hm:aA Tryz.prog 309 [ii s.now,p.g.av,ii start] [] (.ret (.bool false)) []):
  aA Tryz.prog 247 [.ref 0 0,p.av] (rdS ⟨s,ev,true,start⟩ 0 0) (.ret (.bool false)) (rdS ⟨s,ev,true,start⟩ 0 0):=by
 refine cT (E:=(Er [] [60,64,86,87,88])) (fn:=Tryz.f247) (g:=.full 3 _ _) fun _=>?_
 exact zW
set_option maxHeartbeats 1000000 in
theorem aJr (s:Sta) (ev:List Ev) (start:Int) (p:Pn) (x:Int×List Int) (hf:aA Tryz.prog 199 [s.c.av,.slice 14 (rav s.run) .no,p.g.av] [] (.ret (fdA (some x))) []) (he:ev.length<=1000000) (hp:s.pend.length<=1000000) (hlr:(rav s.run).length<=1048576)
  (hm:aA Tryz.prog 309 [ii s.now,p.g.av,ii start] [] (.ret (.bool true)) []):
  aA Tryz.prog 247 [.ref 0 0,p.av] (rdS ⟨s,ev,true,start⟩ 0 0) (.ret (.bool true)) (rdS (MO ⟨s,ev,true,start⟩ p x.1 x.2) 1 1):=by
 have e:MO ⟨s,ev,true,start⟩ p x.1 x.2=kS ⟨{s with pend:=cI s.pend p.g.id,run:=s.run++[⟨p.g,p.seq,p.at',s.now,x.1,x.2⟩]},ev,true,start⟩ ⟨1,p.g.id,x.1⟩:=rfl
 have hn:=GU ⟨{s with pend:=cI s.pend p.g.id,run:=s.run++[⟨p.g,p.seq,p.at',s.now,x.1,x.2⟩]},ev,true,start⟩ 1 p.g.id x.1 (by show ev.length<=_;omega)
 have ht:=pJ s.pend p.g.id hp
 rw [e]
 generalize kS ⟨{s with pend:=cI s.pend p.g.id,run:=s.run++[⟨p.g,p.seq,p.at',s.now,x.1,x.2⟩]},ev,true,start⟩ ⟨1,p.g.id,x.1⟩=r2 at *
 have er:rav (s.run++[⟨p.g,p.seq,p.at',s.now,x.1,x.2⟩])=rav s.run++[Rn.av ⟨p.g,p.seq,p.at',s.now,x.1,x.2⟩]:=by simp
 unfold rdS rdO rdC ruV at hn
 dsimp only at hn
 rw [er] at hn
 generalize cI s.pend p.g.id=pq at *
 clear er e
 refine cT (E:=(Er [] [60,64,86,87,88])) (fn:=Tryz.f247) (g:=.full 3 _ _) fun _=>?_
 exact zW
set_option maxHeartbeats 1000000 in
theorem aJt (s:Sta) (ev:List Ev) (start:Int) (p:Pn) (x:Int×List Int) (hf:aA Tryz.prog 199 [s.c.av,.slice 14 (rav s.run) .no,p.g.av] [] (.ret (fdA (some x))) []) (he:ev.length<=1000000) (hp:s.pend.length<=1000000) (hlr:(rav s.run).length<=1048576):
  aA Tryz.prog 247 [.ref 0 0,p.av] (rdS ⟨s,ev,false,start⟩ 0 0) (.ret (.bool true)) (rdS (MO ⟨s,ev,false,start⟩ p x.1 x.2) 1 1):=by
 have hm:=hf
 have e:MO ⟨s,ev,false,start⟩ p x.1 x.2=kS ⟨{s with pend:=cI s.pend p.g.id,run:=s.run++[⟨p.g,p.seq,p.at',s.now,x.1,x.2⟩]},ev,false,start⟩ ⟨1,p.g.id,x.1⟩:=rfl
 have hn:=GU ⟨{s with pend:=cI s.pend p.g.id,run:=s.run++[⟨p.g,p.seq,p.at',s.now,x.1,x.2⟩]},ev,false,start⟩ 1 p.g.id x.1 (by show ev.length<=_;omega)
 have ht:=pJ s.pend p.g.id hp
 rw [e]
 generalize kS ⟨{s with pend:=cI s.pend p.g.id,run:=s.run++[⟨p.g,p.seq,p.at',s.now,x.1,x.2⟩]},ev,false,start⟩ ⟨1,p.g.id,x.1⟩=r2 at *
 have er:rav (s.run++[⟨p.g,p.seq,p.at',s.now,x.1,x.2⟩])=rav s.run++[Rn.av ⟨p.g,p.seq,p.at',s.now,x.1,x.2⟩]:=by simp
 unfold rdS rdO rdC ruV at hn
 dsimp only at hn
 rw [er] at hn
 generalize cI s.pend p.g.id=pq at *
 clear er e
 refine cT (E:=(Er [] [60,64,86,87,88])) (fn:=Tryz.f247) (g:=.full 3 _ _) fun _=>?_
 exact zW
theorem MN (r:Rd) (p:Pn) (hc:r.s.c.sm) (hs:Sm r.s.run) (hp:r.s.pend.length<=1000000) (he:r.ev.length<=1000000) (hg:0<=p.g.pods/\p.g.pods<=16):
  (admR r p=(r,false)/\aA Tryz.prog 247 [.ref 0 0,p.av] (rdS r 0 0) (.ret (.bool false)) (rdS r 0 0))\/
  ((admR r p).2=true/\aA Tryz.prog 247 [.ref 0 0,p.av] (rdS r 0 0) (.ret (.bool true)) (rdS (admR r p).1 1 1)):=by
 have hlr:(rav r.s.run).length<=1048576:=by simpa using hs.1
 have hf:=uG r.s.c hc r.s.run hs p.g hg
 have hm:=aEZ r.s.now p.g r.start
 unfold admR
 cases hF:cK r.s.c r.s.run p.g with
 | none=>
  rw [hF] at hf
  exact .inl ⟨rfl,aJs r p hf⟩
 | some x=>
  rw [hF] at hf
  obtain ⟨s,ev,head,start⟩:=r
  cases head with
  | false=>exact .inr ⟨rfl,aJt s ev start p x hf he hp hlr⟩
  | true=>
   cases hb:bmB s.now p.g start with
   | false=>
    have e:DR ⟨s,ev,true,start⟩ p (some x)=(⟨s,ev,true,start⟩,false):=by
     unfold DR
     exact if_pos (by rw [hb];rfl)
    rw [e]
    dsimp only at hm
    rw [hb] at hm
    exact .inl ⟨rfl,aJu s ev start p x hf hm⟩
   | true=>
    have e:DR ⟨s,ev,true,start⟩ p (some x)=(MO ⟨s,ev,true,start⟩ p x.1 x.2,true):=by
     unfold DR
     exact if_neg (by rw [hb];simp)
    rw [e]
    dsimp only at hm
    rw [hb] at hm
    exact .inr ⟨rfl,aJr s ev start p x hf he hp hlr hm⟩
def bD (id:Int) (x:Rn):Bool:=x.g.id==id
abbrev idF (n:Nat) (id:Int):AVal:=.func (.func n) [] [.ptr [ii id]]
theorem N8 (n:Nat) (id:Int) (hcl:∀ x:Rn,aA Tryz.prog n [x.av,.ptr [ii id]] [] (.ret (.bool (bD id x))) []) (l:List Rn) (hl:l.length<=1048576) (r:Int):∀ (m i:Nat),i+m=l.length->aP (bD id) (l.drop i) i=r->
  To E FA (.pure (.ret (ii r))) (.head (stk FA 0) [(0,.slice 14 (rav l) .no),(1,idF n id),(7,.int .i64 ((rav l).length:Nat)),(8,ii i)] []):=by
 have hlen:(rav l).length=l.length:=by simp
 intro m
 induction m with
 | zero=>
  intro i hi hr
  rw [Ae (by omega)] at hr
  have hr: -1=r:=hr
  subst hr
  refine gV ?_
  exact zW
 | succ m ih=>
  intro i hi hr
  have hlt:i<l.length:=by omega
  rw [Ad hlt] at hr
  have get:(rav l)[i]? =some l[i].av:=bN hlt
  generalize l[i]=x at hr get
  unfold aP at hr
  have hb:=hcl x
  have ih:=ih (i+1) (by omega)
  cases hq:bD id x with
  | true=>
   rw [if_pos hq] at hr
   rw [hq] at hb
   subst hr
   refine gV ?_
   exact zW
  | false=>
   rw [if_neg (by rw [hq];decide)] at hr
   rw [hq] at hb
   have next:=ih hr
   refine gV ?_
   exact zW
theorem BR (n:Nat) (id:Int) (hcl:∀ x:Rn,aA Tryz.prog n [x.av,.ptr [ii id]] [] (.ret (.bool (bD id x))) []) (l:List Rn) (hl:l.length<=1048576):aA Tryz.prog 229 [.slice 14 (rav l) .no,idF n id] [] (.ret (ii (aP (bD id) l 0))) []:=by
 refine cT (E:=E) (fn:=Tryz.f229) (g:=.pure _) fun _=>?_
 refine gV ?_
 exact To.cut [0,1,7,8] 0 rfl rfl rfl rfl (N8 n id hcl l hl _ l.length 0 (by omega) rfl)
theorem R6 (id:Int) (x:Rn):aA Tryz.prog 317 [x.av,.ptr [ii id]] [] (.ret (.bool (bD id x))) []:=by
 unfold bD
 refine cT (E:=E) (fn:=Tryz.f317) (g:=.pure _) fun _=>?_
 exact zW
theorem EB (id:Int) (x:Rn):aA Tryz.prog 230 [x.av,.ptr [ii id]] [] (.ret (.bool (bD id x))) []:=by
 unfold bD
 refine cT (E:=E) (fn:=Tryz.f230) (g:=.pure _) fun _=>?_
 exact zW
theorem nH (p:Rn->Bool):∀ (l:List Rn) (i:Nat),aP p l i= -1\/((i:Int)<=aP p l i/\aP p l i<(i:Int)+l.length)
 | [],i=>.inl rfl
 | x::l,i=>by
  unfold aP
  by_cases h:p x=true
  .rw [if_pos h]
   right
   simp
   omega
  .rw [if_neg h]
   rcases nH p l (i+1) with h2 | h2
   .exact .inl h2
   .right
    simp
    omega
noncomputable abbrev fEv:Func:=Tryz.f249
abbrev evF (ids:List Int) (i:Nat):List (Nat×AVal):=[(0,.ref 0 0),(1,.slice 1 (iv ids) .no),(8,.slice 1 (iv ids) .no),(9,.int .i64 ((iv ids).length:Nat)),(10,ii i)]
abbrev evD (Q:Rd) (run:List Rn) (ids:List Int):Rd:=⟨{Q.s with run:=aC run ids},Q.ev,Q.head,Q.start⟩
abbrev evG (Q:Rd) (run:List Rn) (ids:List Int) (g:Nat):Goal:=.full 2 (.ret (.tup [])) [rdO (evD Q run ids) (ruV (aC run ids) 2 0) g,evT g,ruT 0]
abbrev evB (q:Rd) (run:List Rn) (g:Nat):List AObj:=[rdO q (.slice 14 (rav run) .no) g,evT g]
theorem AM (l:List Pn) (p:Pn):(jJ l p).length=l.length+1:=by
 unfold jJ
 rw [Aw,Aw,Mm]
 have:=congrArg Lj (Bv (Q2.putAt p.q (l.map Pn.q)) l)
 rw [Aw] at this
 omega
set_option maxHeartbeats 1000000 in
theorem aEj (run:List Rn) (hs:Sm run) (ids:List Int) (hd:ids.length<=1048576) (hin:∀ id∈ids,0<=aP (bD id) run 0) (Q:Rd):∀ (m i:Nat) (q:Rd),i+m=ids.length->(ids.drop i).foldl (dB run) q=Q->q.s.pend.length+m<=1000000->q.ev.length+m<=1000000->
  To E fEv (evG Q run ids 1) (.head (stk fEv 0) (evF ids i) (evB q run 1)):=by
 intro m
 induction m with
 | zero=>
  intro i q hi hQ hp he
  rw [Ae (by omega)] at hQ
  have hQ:q=Q:=hQ
  subst hQ
  have hw:=WG run hs ids hd
  have hll:(iv ids).length=ids.length:=by simp
  have e9:evG q run ids 1= .full 2 (.ret (.tup [])) [rdO q (ruV (aC run ids) 2 0) 1,evT 1,ruT 0]:=rfl
  rw [e9]
  generalize aC run ids=rn at *
  refine gV ?_
  exact zW
 | succ m ih=>
  intro i q hi hQ hp he
  have hlt:i<ids.length:=by omega
  rw [Ad hlt,Av] at hQ
  have hi2:=hin _ (Bl hlt)
  have get:(iv ids)[i]? =some (ii ids[i]):=by simp [hlt]
  generalize ids[i]=id at hQ hi2 get
  have h1:=BR _ id (R6 id) run hs.1
  obtain ⟨at',hat⟩:∃ a:Nat,aP (bD id) run 0=(a:Int):=⟨(aP (bD id) run 0).toNat,by omega⟩
  have hatl:at'<run.length:=by
   rcases nH (bD id) run 0 with h | h
   .omega
   .rw [hat] at h;omega
  have gx:=lW hatl
  have hev:dB run q id=kS ⟨{q.s with pend:=jJ q.s.pend (aW run at').pn},q.ev,q.head,q.start⟩ ⟨2,id,0⟩:=by
   have e:(aP (fun x=>x.g.id==id) run 0).toNat=at':=by
    have h9:aP (bD id) run 0=at':=hat
    have h8:aP (fun x=>x.g.id==id) run 0=aP (bD id) run 0:=rfl
    rw [h8,h9]
    rfl
   unfold dB
   rw [e]
   rfl
  rw [hev] at hQ
  rw [hat] at h1
  have h2:=GL q.s.pend (aW run at').pn (by omega)
  have h3:=J9 ⟨{q.s with pend:=jJ q.s.pend (aW run at').pn},q.ev,q.head,q.start⟩ run 2 id 0 (by show q.ev.length<=_;omega)
  have next:=ih (i+1) (kS ⟨{q.s with pend:=jJ q.s.pend (aW run at').pn},q.ev,q.head,q.start⟩ ⟨2,id,0⟩) (by omega) hQ (by show (jJ _ _).length+m<=_;rw [AM];omega) (by show (q.ev++[_]).length+m<=_;simp;omega)
  generalize kS ⟨{q.s with pend:=jJ q.s.pend (aW run at').pn},q.ev,q.head,q.start⟩ ⟨2,id,0⟩=q2 at *
  generalize jJ q.s.pend (aW run at').pn=pq at *
  have hpn:(aW run at').pn=⟨(aW run at').g,(aW run at').seq,(aW run at').at'⟩:=rfl
  rw [hpn] at h2
  generalize aW run at'=x at *
  have hll:(iv ids).length=ids.length:=by simp
  have hlr:(rav run).length=run.length:=by simp
  clear hev hQ hin
  refine gV ?_
  exact zW
set_option maxHeartbeats 1000000 in
theorem aAK (r:Rd) (run:List Rn) (hrun:r.s.run=run) (hs:Sm run) (ids:List Int) (hd:ids.length<=1048576) (hne:ids≠[]) (hin:∀ id∈ids,0<=aP (bD id) run 0) (hp:r.s.pend.length+ids.length<=1000000) (he:r.ev.length+ids.length<=1000000):
  aA Tryz.prog 249 [.ref 0 0,.slice 1 (iv ids) .no] (evB r run 0) (.ret (.tup [])) [rdO (lX r ids) (ruV (lX r ids).s.run 2 0) 1,evT 1,ruT 0]:=by
 have hR:lX r ids=evD (ids.foldl (dB run) r) run ids:=by rw [<-hrun];rfl
 rw [hR]
 obtain ⟨Q,hQ⟩:∃ Q,(ids.drop 0).foldl (dB run) r=Q:=⟨_,rfl⟩
 have hQ2:ids.foldl (dB run) r=Q:=hQ
 rw [hQ2]
 have ev:=aEj run hs ids hd hin Q
 have hpos:0<ids.length:=Hh.2 hne
 obtain ⟨m,hm⟩:∃ m,ids.length=m+1:=⟨ids.length-1,by omega⟩
 have i0:(0:Nat)=0:=rfl
 have key:To E fEv (evG Q run ids 1) (.head (stk fEv 0) (evF ids 0) (evB r run 0)):=by
  have hp:r.s.pend.length+(m+1)<=1000000:=by omega
  have he:r.ev.length+(m+1)<=1000000:=by omega
  have hi:0+(m+1)=ids.length:=by omega
  clear hQ2 hR hrun
  obtain ⟨i,hi0⟩:∃ i:Nat,i=0:=⟨_,rfl⟩
  have key2:∀ q,q=r->To E fEv (evG Q run ids 1) (.head (stk fEv 0) (evF ids i) (evB q run 0)):=by
   intro q hq
   subst hq
   rw [<-hi0] at hQ hi
   have ih:=fun q=>ev m (i+1) q (by omega)
   clear i0 ev hi0 hpos
   have hlt:i<ids.length:=by omega
   rw [Ad hlt,Av] at hQ
   have hi2:=hin _ (Bl hlt)
   have get:(iv ids)[i]? =some (ii ids[i]):=by simp [hlt]
   generalize ids[i]=id at hQ hi2 get
   have h1:=BR _ id (R6 id) run hs.1
   obtain ⟨at',hat⟩:∃ a:Nat,aP (bD id) run 0=(a:Int):=⟨(aP (bD id) run 0).toNat,by omega⟩
   have hatl:at'<run.length:=by
    rcases nH (bD id) run 0 with h | h
    .omega
    .rw [hat] at h;omega
   have gx:=lW hatl
   have hev:dB run q id=kS ⟨{q.s with pend:=jJ q.s.pend (aW run at').pn},q.ev,q.head,q.start⟩ ⟨2,id,0⟩:=by
    have e:(aP (fun x=>x.g.id==id) run 0).toNat=at':=by
     have h9:aP (bD id) run 0=at':=hat
     have h8:aP (fun x=>x.g.id==id) run 0=aP (bD id) run 0:=rfl
     rw [h8,h9]
     rfl
    unfold dB
    rw [e]
    rfl
   rw [hev] at hQ
   rw [hat] at h1
   have h2:=GL q.s.pend (aW run at').pn (by omega)
   have h3:=J9 ⟨{q.s with pend:=jJ q.s.pend (aW run at').pn},q.ev,q.head,q.start⟩ run 2 id 0 (by show q.ev.length<=_;omega)
   have next:=ih (kS ⟨{q.s with pend:=jJ q.s.pend (aW run at').pn},q.ev,q.head,q.start⟩ ⟨2,id,0⟩)  hQ (by show (jJ _ _).length+m<=_;rw [AM];omega) (by show (q.ev++[_]).length+m<=_;simp;omega)
   generalize kS ⟨{q.s with pend:=jJ q.s.pend (aW run at').pn},q.ev,q.head,q.start⟩ ⟨2,id,0⟩=q2 at *
   generalize jJ q.s.pend (aW run at').pn=pq at *
   have hpn:(aW run at').pn=⟨(aW run at').g,(aW run at').seq,(aW run at').at'⟩:=rfl
   rw [hpn] at h2
   generalize aW run at'=x at *
   have hll:(iv ids).length=ids.length:=by simp
   have hlr:(rav run).length=run.length:=by simp
   clear hev hQ hin
   refine gV ?_
   exact zW
  rw [hi0] at key2
  exact key2 r rfl
 refine cT (E:=E) (fn:=Tryz.f249) (g:=.full 2 _ _) fun _=>?_
 exact zW
abbrev V0 (r:Rd) (p:Pn) (b:Bool) (O:List AObj):Prop:=aA Tryz.prog 247 [.ref 0 0,p.av] (rdS r 0 0) (.ret (.bool b)) O
abbrev tT (r:Rd) (p:Pn) (O:List AObj):Prop:=aA Tryz.prog 162 [.ref 0 0,p.av] (rdS r 0 0) (.ret (.tup [])) O
abbrev aHM (r:Rd) (p:Pn) (Q:Option (List Int)):Prop:=aA Tryz.prog 248 [r.s.c.av,.slice 14 (rav r.s.run) .no,p.g.av] [] (.ret (chR Q)) []
abbrev aId (r:Rd) (p:Pn) (Q:Option Int):Prop:=aA Tryz.prog 250 [r.s.c.av,ii r.s.now,.slice 14 (rav r.s.run) .no,p.g.av] [] (.ret (stA Q)) []
theorem tW (r R:Rd) (p:Pn) (h1:V0 r p true (rdS R 1 1)):tT r p (rdS R 1 1):=by
 refine cT (E:=(Er [] [39,40,59,60,61,62,63,64])) (fn:=Tryz.f162) (g:=.full 3 _ _) fun _=>?_
 exact zW
theorem aIs (s:Sta) (ev:List Ev) (st:Int) (p:Pn) (h1:V0 ⟨s,ev,true,st⟩ p false (rdS ⟨s,ev,true,st⟩ 0 0)):tT ⟨s,ev,true,st⟩ p (rdS ⟨s,ev,true,st⟩ 0 0):=by
 refine cT (E:=(Er [] [39,40,59,60,61,62,63,64])) (fn:=Tryz.f162) (g:=.full 3 _ _) fun _=>?_
 exact zW
set_option maxHeartbeats 1000000 in
theorem aIr (s:Sta) (ev:List Ev) (p:Pn) (h1:V0 ⟨s,ev,false,0⟩ p false (rdS ⟨s,ev,false,0⟩ 0 0)) (h2:aHM ⟨s,ev,false,0⟩ p none) (h3:aId ⟨s,ev,false,0⟩ p none):tT ⟨s,ev,false,0⟩ p (rdS ⟨s,ev,false,0⟩ 0 0):=by
 refine cT (E:=(Er [] [39,40,59,60,61,62,63,64])) (fn:=Tryz.f162) (g:=.full 3 _ _) fun _=>?_
 exact zW
set_option maxHeartbeats 1000000 in
theorem aIq (s:Sta) (ev:List Ev) (st:Int) (p:Pn) (n:Int) (he:ev.length<=1000000) (h1:V0 ⟨s,ev,false,st⟩ p false (rdS ⟨s,ev,false,st⟩ 0 0)) (h2:aHM ⟨s,ev,false,st⟩ p none) (h3:aId ⟨s,ev,false,st⟩ p (some n)):tT ⟨s,ev,false,st⟩ p (rdS ⟨s,ev++[⟨4,p.g.id,n⟩],true,n⟩ 1 0):=by
 have h4:=GU ⟨s,ev,true,n⟩ 4 p.g.id n (by show ev.length<=_;omega)
 unfold kS at h4
 dsimp only at h4
 generalize ev++[⟨4,p.g.id,n⟩]=ev2 at *
 refine cT (E:=(Er [] [39,40,59,60,61,62,63,64])) (fn:=Tryz.f162) (g:=.full 3 _ _) fun _=>?_
 repeat' first | (refine gN (hEr [] [39,40,59,60,61,62,63,64]) ?_;conv=>whnf) | refine .eff [] [0,1,2] _ _ rfl h1 ?_ | refine .pure _ [] h2 ?_ | refine .pure _ [] h3 ?_ | refine .sole rfl (.eff [] [0,1,2] _ _ rfl h4 ?_) | exact rfl | refine aY ?_ | refine aN ?_ | refine aT fun h=>?_ | refine aF fun h=>?_ | refine ⟨fun h=>?_,fun h=>?_⟩ | refine aJ ?_ | refine ⟨_,rfl,?_⟩ | refine aD ?_ | fail
 refine ⟨[],[0,1,2],⟨rfl,rfl⟩,rfl,rfl⟩
abbrev aJn (r:Rd) (ids:List Int) (R:Rd):Prop:=aA Tryz.prog 249 [.ref 0 0,.slice 1 (iv ids) .no] (evB r r.s.run 0) (.ret (.tup [])) [rdO R (ruV R.s.run 2 0) 1,evT 1,ruT 0]
set_option maxHeartbeats 2000000 in
theorem BD (s:Sta) (ev:List Ev) (st:Int) (p:Pn) (ids:List Int) (R:Rd) (h1:V0 ⟨s,ev,false,st⟩ p false (rdS ⟨s,ev,false,st⟩ 0 0)) (h2:aHM ⟨s,ev,false,st⟩ p (some ids)) (h3:aJn ⟨s,ev,false,st⟩ ids R)
  (R2:Rd) (b:Bool) (ge gr:Nat) (h4:V0 R p b (rdS R2 ge gr)) (hg:ge=0/\gr=0\/ge=1/\gr=1):tT ⟨s,ev,false,st⟩ p [rdO R2 (ruV R2.s.run 3 0) 1,evT 1,ruT 0,ruT 0]:=by
 rcases hg with ⟨rfl,rfl⟩ | ⟨rfl,rfl⟩
 all_goals
  refine cT (E:=(Er [] [39,40,59,60,61,62,63,64])) (fn:=Tryz.f162) (g:=.full 3 _ _) fun _=>?_
  repeat' first | (refine gN (hEr [] [39,40,59,60,61,62,63,64]) ?_;conv=>whnf) | refine .eff [] [0,1,2] _ _ rfl h1 ?_ | refine .pure _ [] h2 ?_ | refine .eff [] [0,1] _ _ rfl h3 ?_ | refine .eff [] [0,1,4] _ _ rfl h4 ?_ | exact rfl | refine aY ?_ | refine aN ?_ | refine aT fun h=>?_ | refine aF fun h=>?_ | refine ⟨fun h=>?_,fun h=>?_⟩ | refine aJ ?_ | refine ⟨_,rfl,?_⟩ | refine aD ?_ | fail
  refine ⟨[],[0,1,2,4],⟨rfl,rfl⟩,rfl,rfl⟩
def zG (r:Rd) (p:Pn):Prop:=
 (cF r p=r/\tT r p (rdS r 0 0))\/tT r p (rdS (cF r p) 1 1)\/tT r p (rdS (cF r p) 1 0)\/tT r p [rdO (cF r p) (ruV (cF r p).s.run 3 0) 1,evT 1,ruT 0,ruT 0]
noncomputable abbrev aIG:Func:=Tryz.f76
abbrev aFc:AObj:=.cells 31 [.slice 11 [] .nil,.slice 6 [] .nil,ii 0,ii 0,ii 0,ii 0,.slice 11 [] .nil,.slice 14 [] .nil,.slice 1 [] .nil]
abbrev aJg (L:List Pn) (i:Nat):List (Nat×AVal):=[(2,.ref 3 0),(4,.ref 0 0),(12,.slice 11 (pnv L) .no),(13,.int .i64 ((pnv L).length:Nat)),(14,ii i)]
abbrev aJf (r:Rd):List AObj:=[rdO r (ruV r.s.run 2 0) 0,evT 0,ruT 0,aFc]
set_option maxHeartbeats 1000000 in
theorem XP (Inv:Rd->List Pn->Prop) (hI:∀ r p rest,Inv r (p::rest)->zG r p/\Inv (cF r p) rest) (L:List Pn) (hL:L.length<=1000000) (R:Rd):∀ (m i:Nat) (r:Rd),i+m=L.length->(L.drop i).foldl cF r=R->Inv r (L.drop i)->
  To E aIG (.pure (.ret (.tup [R.s.av,.slice 3 (evv R.ev) .no]))) (.head (stk aIG 0) (aJg L i) (aJf r)):=by
 have hlen:(pnv L).length=L.length:=by simp
 intro m
 induction m with
 | zero=>
  intro i r hi hR _
  rw [Ae (by omega)] at hR
  have hR:r=R:=hR
  subst hR
  refine gV ?_
  refine aF fun h=>?_
  refine dP hE 2 ?_;conv=>whnf
  refine To.permAt hE [0,1,2,3,4,5,6,7,9] [8] (by rfl) ?_;conv=>whnf
  refine aL ?_
  refine aL ?_
  exact zW
 | succ m ih=>
  intro i r hi hR hv
  have hlt:i<L.length:=by omega
  rw [Ad hlt] at hR hv
  rw [Av] at hR
  obtain ⟨h1,h2⟩:=hI _ _ _ hv
  have get:=GN hlt
  generalize L[i]=p at hR hv h1 h2 get
  have next:=ih (i+1) (cF r p) (by omega) hR h2
  rcases h1 with ⟨e,hl⟩ | hl | hl | hl
  .rw [e] at next
   refine gV ?_
   exact zW
  .generalize cF r p=r2 at *
   refine gV ?_
   exact zW
  .generalize cF r p=r2 at *
   refine gV ?_
   exact zW
  .generalize cF r p=r2 at *
   refine gV ?_
   refine aT fun h=>?_
   repeat' first | (refine gN hE ?_;conv=>whnf) | refine ⟨i,rfl,?_⟩ | refine ⟨_,get,?_⟩ | refine .eff [] [0,1,2] _ _ rfl hl ?_ | exact rfl | refine aY ?_ | refine aN ?_ | refine aT fun h=>?_ | refine aF fun h=>?_ | refine ⟨fun h=>?_,fun h=>?_⟩ | refine aJ ?_ | refine ⟨_,rfl,?_⟩ | refine aD ?_ | fail
   refine To.part [2,4,12,13,14] [0,1,5,3] rfl rfl rfl ?_
   exact next
theorem aEK (Inv:Rd->List Pn->Prop) (hI:∀ r p rest,Inv r (p::rest)->zG r p/\Inv (cF r p) rest) (s:Sta) (h:StaSm' s) (L:List Pn) (hL:L.length<=1000000) (hs:aA Tryz.prog 161 [s.av] [] (.ret (.slice 11 (pnv L) .no)) []) (h0:Inv ⟨s,[],false,0⟩ L):
  aA Tryz.prog 76 [s.av] [] (.ret (.tup [(L.foldl cF ⟨s,[],false,0⟩).s.av,.slice 3 (evv (L.foldl cF ⟨s,[],false,0⟩).ev) .no])) []:=by
 have h1:=XP Inv hI L hL _ L.length 0 ⟨s,[],false,0⟩ (by omega) rfl h0
 have ho:=aEM s h
 rw [Bt] at h1
 generalize L.foldl cF ⟨s,[],false,0⟩=R at *
 refine cT (E:=E) (fn:=Tryz.f76) (g:=.pure _) fun _=>?_
 repeat' first | (refine gN hE ?_;conv=>whnf) | refine .pure _ _ ho ?_ | refine .pure _ [] hs ?_ | exact rfl | refine aY ?_ | refine aN ?_ | refine aT fun h=>?_ | refine aF fun h=>?_ | refine ⟨fun h=>?_,fun h=>?_⟩ | refine aJ ?_ | refine ⟨_,rfl,?_⟩ | refine aD ?_ | fail
 refine To.begin 3 9 55 rfl rfl ?_
 refine To.part [2,4,12,13,14] [3,4,2,1] rfl rfl rfl ?_
 exact h1
theorem yV (run:List Rn):∀ (ids:List Int) (r:Rd),(ids.foldl (dB run) r).s.c=r.s.c/\(ids.foldl (dB run) r).s.now=r.s.now/\(ids.foldl (dB run) r).s.nxt=r.s.nxt/\(ids.foldl (dB run) r).s.hist=r.s.hist/\(ids.foldl (dB run) r).s.run=r.s.run/\(ids.foldl (dB run) r).head=r.head/\(ids.foldl (dB run) r).start=r.start/\(ids.foldl (dB run) r).s.pend.length=r.s.pend.length+ids.length/\(ids.foldl (dB run) r).ev.length=r.ev.length+ids.length
 | [],r=>⟨rfl,rfl,rfl,rfl,rfl,rfl,rfl,rfl,rfl⟩
 | id::ids,r=>by
  obtain ⟨a,b,c,d,e,f,g,h,i⟩:=yV run ids (dB run r id)
  have h1:(dB run r id).s.pend.length=r.s.pend.length+1:=AM _ _
  have h2:(dB run r id).ev.length=r.ev.length+1:=by show (r.ev++[_]).length=_;simp
  rw [Av]
  refine ⟨a,b,c,d,e,f,g,?_,?_⟩
  .rw [h,h1,Bo];omega
  .rw [i,h2,Bo];omega
structure LookPre (r:Rd) (p:Pn):Prop where
 c:r.s.c.sm
 run:Sm r.s.run
 pend:r.s.pend.length<=900000
 ev:r.ev.length<=900000
 pods:0<=p.g.pods/\p.g.pods<=16
 start:r.head=false->r.start=0
 cho:cK r.s.c r.s.run p.g=none->∀ ids,fS r.s.c r.s.run p.g=some ids->ids≠[]/\ids.length<=100000/\∀ id∈ids,0<=aP (bD id) r.s.run 0
theorem ZX (r:Rd) (p:Pn) (h:LookPre r p):zG r p:=by
 have hd:=h.pend
 have hev:=h.ev
 rcases MN r p h.c h.run (by omega) (by omega) h.pods with ⟨e,ha⟩ | ⟨e,ha⟩
 .have e2:(admR r p).2=false:=by rw [e]
  obtain ⟨s,ev,head,start⟩:=r
  cases head with
  | true=>
   have el:cF ⟨s,ev,true,start⟩ p=⟨s,ev,true,start⟩:=by
    unfold cF
    rw [if_neg (by rw [e2];decide),if_pos rfl]
   exact .inl ⟨el,aIs s ev start p ha⟩
  | false=>
   have el:cF ⟨s,ev,false,start⟩ p=aFn ⟨s,ev,false,start⟩ p (fS s.c s.run p.g):=by
    unfold cF
    rw [if_neg (by rw [e2];decide),if_neg (show ¬ false=true by decide)]
   have hch:=VN s.c h.c s.run h.run p.g h.pods
   have hcho:=h.cho
   dsimp only at hcho
   cases hq:fS s.c s.run p.g with
   | none=>
    rw [hq] at hch el
    have hst:=W8 s.c h.c s.now s.run h.run p.g h.pods
    have el:cF ⟨s,ev,false,start⟩ p=X9 ⟨s,ev,false,start⟩ p (sF s.c s.now s.run p.g):=el
    cases hs:sF s.c s.now s.run p.g with
    | none=>
     rw [hs] at hst el
     have h0:start=0:=h.start rfl
     subst h0
     exact .inl ⟨el,aIr s ev p ha hch hst⟩
    | some n=>
     rw [hs] at hst el
     have el:cF ⟨s,ev,false,start⟩ p=⟨s,ev++[⟨4,p.g.id,n⟩],true,n⟩:=el
     refine .inr (.inr (.inl ?_))
     rw [el]
     exact aIq s ev start p n (by dsimp only at hev;omega) ha hch hst
   | some ids=>
    rw [hq] at hch el
    have hfn:cK s.c s.run p.g=none:=by
     have e9:(DR ⟨s,ev,false,start⟩ p (cK s.c s.run p.g)).2=false:=e2
     cases hf:cK s.c s.run p.g with
     | none=>rfl
     | some x=>rw [hf] at e9;have e8:true=false:=e9;cases e8
    obtain ⟨c1,c2,c3⟩:=hcho hfn ids hq
    have el:cF ⟨s,ev,false,start⟩ p=(admR (lX ⟨s,ev,false,start⟩ ids) p).1:=el
    have hv:=aAK ⟨s,ev,false,start⟩ s.run rfl h.run ids (by omega) c1 c3 (by dsimp only at hd⊢;omega) (by dsimp only at hev⊢;omega)
    obtain ⟨f1,_,_,_,f5,_,_,f8,f9⟩:=yV s.run ids ⟨s,ev,false,start⟩
    have hR1:(lX ⟨s,ev,false,start⟩ ids).s.c=s.c:=f1
    have hR2:(lX ⟨s,ev,false,start⟩ ids).s.run=aC s.run ids:=rfl
    have hR3:(lX ⟨s,ev,false,start⟩ ids).s.pend.length=s.pend.length+ids.length:=f8
    have hR4:(lX ⟨s,ev,false,start⟩ ids).ev.length=ev.length+ids.length:=f9
    refine .inr (.inr (.inr ?_))
    rw [el]
    generalize lX ⟨s,ev,false,start⟩ ids=R at *
    dsimp only at hd hev
    rcases MN R p (by rw [hR1];exact h.c) (by rw [hR2];exact rZ h.run ids) (by omega) (by omega) h.pods with ⟨e3,hb⟩ | ⟨e3,hb⟩
    .rw [e3]
     exact BD s ev start p ids R ha hch hv R false 0 0 hb (.inl ⟨rfl,rfl⟩)
    .exact BD s ev start p ids R ha hch hv (admR R p).1 true 1 1 hb (.inr ⟨rfl,rfl⟩)
 .have el:cF r p=(admR r p).1:=by
   unfold cF
   rw [if_pos e]
  refine .inr (.inl ?_)
  rw [el]
  exact tW r (admR r p).1 p ha
theorem vO (l:List Pn) (p:Pn):(jJ l p).Perm (p::l):=by
 unfold jJ
 have h:=Bv (Q2.putAt p.q (l.map Pn.q)) l
 generalize Hw (Q2.putAt p.q (l.map Pn.q)) l=A at *
 generalize Hi (Q2.putAt p.q (l.map Pn.q)) l=B at *
 rw [<-h,Ai]
 exact Ep
theorem BQ (a:Int):∀ (l:List Pn) (i:Nat),((∀ p∈l,p.g.id≠a)/\Q2.idx (fun x=>x.id==a) (l.map Pn.q) i= -1)\/∃ A p B,l=A++p::B/\p.g.id=a/\Q2.idx (fun x=>x.id==a) (l.map Pn.q) i=((i+A.length:Nat):Int)
 | [],i=>.inl ⟨fun p hp=>(by cases hp),rfl⟩
 | p::l,i=>by
  rw [Bk]
  unfold Q2.idx
  by_cases h:p.g.id=a
  .right
   refine ⟨[],p,l,rfl,h,?_⟩
   have e:(p.q.id==a)=true:=by show (p.g.id==a)=true;rw [h];simp
   simp [e]
  .have e:(p.q.id==a)=false:=by show (p.g.id==a)=false;simpa using h
   simp only [e]
   rcases BQ a l (i+1) with ⟨h1,h2⟩ | ⟨A,x,B,h1,h2,h3⟩
   .left
    refine ⟨fun q hq=>?_,h2⟩
    rcases Bd.1 hq with rfl | hq
    .exact h
    .exact h1 q hq
   .right
    refine ⟨p::A,x,B,by rw [h1];rfl,h2,?_⟩
    refine h3.trans ?_
    rw [Bo]
    congr 1
    omega
theorem uH (a:Int) (l:List Pn):((∀ p∈l,p.g.id≠a)/\eM a l= -1)\/∃ A p B,l=A++p::B/\p.g.id=a/\eM a l=(A.length:Int):=by
 have h:=BQ a l 0
 simp only [Bn] at h
 exact h
theorem zX {l:List Pn} {p:Pn} (hp:p∈l) (hn:(l.map fun x=>x.g.id).Nodup):(p::cI l p.g.id).Perm l/\∀ q∈l,q≠p->q∈cI l p.g.id:=by
 rcases uH p.g.id l with ⟨h,_⟩ | ⟨A,x,B,h1,h2,h3⟩
 .exact absurd rfl (h p hp)
 .have hx:x=p:=by
   subst h1
   rw [Bu,Bk,Bm] at hn
   obtain ⟨_,hB,hAB⟩:=hn
   rw [Cc] at hB
   rcases Ba.1 hp with hp | hp
   .exact absurd h2.symm (hAB _ (Cm hp) _ (Ar ..))
   .rcases Bd.1 hp with hp | hp
    .exact hp.symm
    .exact absurd (h2▸Cm hp) hB.1
  subst hx
  have e:cI l x.g.id=A++B:=by
   unfold cI
   rw [if_neg (by omega),h3,h1]
   show (A++x::B).eraseIdx A.length=_
   rw [Gz (Au _),Kx]
   rfl
  rw [e]
  refine ⟨by rw [h1];exact Ep.symm,fun q hq hne=>?_⟩
  rw [h1] at hq
  rcases Ba.1 hq with hq | hq
  .exact Dj _ hq
  .rcases Bd.1 hq with hq | hq
   .exact absurd hq hne
   .exact Cu _ hq
theorem B1 {id:Int} (l:List Rn):∀ (i:Nat) (x:Rn),x∈l->x.g.id=id->0<=aP (bD id) l i:=by
 induction l with
 | nil=>intro i x hx;cases hx
 | cons y l ih=>
  intro i x hx h
  unfold aP
  by_cases hy:bD id y=true
  .rw [if_pos hy];omega
  .rw [if_neg hy]
   rcases Bd.1 hx with e | hx
   .exact absurd (by unfold bD;rw [<-e];simpa using h) hy
   .exact ih (i+1) x hx h
theorem UW {id:Int} (l:List Rn):∀ (i:Nat),0<=aP (bD id) l i->aW l (aP (bD id) l i-i).toNat∈l/\(aW l (aP (bD id) l i-i).toNat).g.id=id:=by
 induction l with
 | nil=>intro i h;have h:(0:Int)<= -1:=h;omega
 | cons y l ih=>
  intro i h
  unfold aP at h⊢
  by_cases hy:bD id y=true
  .rw [if_pos hy]
   have e:((i:Int)-i).toNat=0:=by omega
   rw [e]
   unfold bD at hy
   exact ⟨Ar ..,(by simpa using hy:y.g.id=id)⟩
  .rw [if_neg hy] at h⊢
   obtain ⟨h1,h2⟩:=ih (i+1) h
   rcases nH (bD id) l (i+1) with h3 | h3
   .omega
   .have e:(aP (bD id) l (i+1)-i).toNat=(aP (bD id) l (i+1)-((i+1:Nat):Int)).toNat+1:=by omega
    rw [e]
    exact ⟨Bj _ h1,h2⟩
def xOf (run:List Rn) (id:Int):Rn:=aW run (aP (bD id) run 0).toNat
theorem kL {run:List Rn} {id:Int} (h:0<=aP (bD id) run 0):xOf run id∈run/\(xOf run id).g.id=id:=by
 have h2:=UW run 0 h
 have e:(aP (bD id) run 0-((0:Nat):Int)).toNat=(aP (bD id) run 0).toNat:=by omega
 rw [e] at h2
 exact h2
theorem E7 (run:List Rn):∀ (ids:List Int) (r:Rd),(ids.foldl (dB run) r).s.pend.Perm (ids.map (fun id=>(xOf run id).pn)++r.s.pend)
 | [],r=>Jm _
 | id::ids,r=>by
  rw [Av,Bk]
  refine (E7 run ids (dB run r id)).trans ?_
  have h:(dB run r id).s.pend=jJ r.s.pend (xOf run id).pn:=rfl
  rw [h]
  refine (Dt _ (vO _ _)).trans ?_
  exact Ep
theorem Y9 {l:List Rn} (h:FP l):(l.map fun x=>x.g.id).Nodup:=by
 unfold Hv
 rw [Cw]
 exact Jl (fun h=>h.1) h
theorem J0 {run:List Rn} (ho:FP run) {ids:List Int} (hn:ids.Nodup) (hin:∀ id∈ids,0<=aP (bD id) run 0):(ids.map (xOf run)++aC run ids).Perm run:=by
 have hrn:run.Nodup:=Jl (fun h e=>h.1 (by rw [e])) ho
 have h1:(ids.map (xOf run)).Nodup:=by
  unfold Hv
  rw [Cw]
  refine List.Pairwise.imp_of_mem (fun {a b} ha hb hab e=>hab ?_) hn
  rw [<-(kL (hin a ha)).2,<-(kL (hin b hb)).2,e]
 have h2:(aC run ids).Nodup:=hrn.sublist Ix
 refine (List.perm_ext_iff_of_nodup ?_ hrn).2 fun x=>?_
 .refine Bm.2 ⟨h1,h2,fun a ha b hb e=>?_⟩
  obtain ⟨id,hid,rfl⟩:=Bx.1 ha
  subst e
  exact (jH.1 hb).2 (by rw [(kL (hin id hid)).2];exact hid)
 .constructor
  .intro h
   rcases Ba.1 h with h | h
   .obtain ⟨id,hid,rfl⟩:=Bx.1 h
    exact (kL (hin id hid)).1
   .exact (jH.1 h).1
  .intro h
   by_cases hx:x.g.id∈ids
   .refine Dj _ (Bx.2 ⟨x.g.id,hx,?_⟩)
    exact aC9 ho (kL (hin _ hx)).1 h (kL (hin _ hx)).2
   .exact Cu _ (jH.2 ⟨h,hx⟩)
structure Base (s:Sta):Prop where
 c:s.c.sm
 ids:((s.pend++s.run.map Rn.pn).map fun x=>x.g.id).Nodup
 seqs:((s.pend++s.run.map Rn.pn).map fun x=>x.seq).Nodup
 few:(s.pend++s.run.map Rn.pn).length<=39
 gang:∀ x∈s.pend++s.run.map Rn.pn,(0<=x.g.pods/\x.g.pods<=16)/\aU x.g.need=true/\x.g.id≠0
structure RCore (s:Sta) (r:Rd) (rest:List Pn):Prop where
 c:r.s.c=s.c
 now:r.s.now=s.now
 nxt:r.s.nxt=s.nxt
 hist:r.s.hist=s.hist
 perm:(r.s.pend++r.s.run.map Rn.pn).Perm (s.pend++s.run.map Rn.pn)
 sub:∀ p∈rest,p∈r.s.pend
 rn:rest.Nodup
 start:r.head=false->r.start=0
 hs:∀ x∈r.s.run,x.hs.length<=1048576
theorem RCore.few {s:Sta} {r:Rd} {rest:List Pn} (b:Base s) (h:RCore s r rest):r.s.pend.length+r.s.run.length<=39:=by
 have:=h.perm.length_eq
 have h2:=b.few
 simp at this h2
 omega
theorem RCore.sm {s:Sta} {r:Rd} {rest:List Pn} (b:Base s) (h:RCore s r rest):Sm r.s.run:=⟨by have:=h.few b;omega,h.hs⟩
theorem RCore.once {s:Sta} {r:Rd} {rest:List Pn} (b:Base s) (h:RCore s r rest):FP r.s.run:=by
 have h1:=((h.perm.map fun x=>x.g.id).nodup_iff).2 b.ids
 have h2:=((h.perm.map fun x=>x.seq).nodup_iff).2 b.seqs
 rw [Bu,Bm,Fg] at h1 h2
 have h1:=h1.2.1
 have h2:=h2.2.1
 unfold Hv at h1 h2
 rw [Cw] at h1 h2
 exact h1.and h2
theorem RCore.pids {s:Sta} {r:Rd} {rest:List Pn} (b:Base s) (h:RCore s r rest):(r.s.pend.map fun x=>x.g.id).Nodup:=by
 have h1:=((h.perm.map fun x=>x.g.id).nodup_iff).2 b.ids
 rw [Bu,Bm] at h1
 exact h1.1
theorem RCore.gangP {s:Sta} {r:Rd} {rest:List Pn} (b:Base s) (h:RCore s r rest) {p:Pn} (hp:p∈r.s.pend):(0<=p.g.pods/\p.g.pods<=16)/\aU p.g.need=true/\p.g.id≠0:=
 b.gang p (h.perm.mem_iff.1 (Dj _ hp))
theorem RCore.skip {s:Sta} {r:Rd} {p:Pn} {rest:List Pn} (h:RCore s r (p::rest)):RCore s r rest:=
 {h with sub:=fun q hq=>h.sub q (Bj _ hq),rn:=(Cc.1 h.rn).2}
theorem RCore.adm {s:Sta} {r:Rd} {p:Pn} {rest:List Pn} (b:Base s) (h:RCore s r (p::rest)) {fl:Int} {hs:List Int} (hl:hs.length<=1048576):RCore s (MO r p fl hs) rest where
 c:=h.c
 now:=h.now
 nxt:=h.nxt
 hist:=h.hist
 perm:=by
  have hp:=(zX (h.sub p (Ar ..)) (h.pids b)).1
  show (cI r.s.pend p.g.id++(r.s.run++[_]).map Rn.pn).Perm _
  refine Mh ?_ h.perm
  rw [Bu,<-Ai]
  refine (Du (l₂:=[p])).trans ?_
  rw [<-Ai]
  exact Dq _ hp
 sub q hq:=(zX (h.sub p (Ar ..)) (h.pids b)).2 q (h.sub q (Bj _ hq)) fun e=>(Cc.1 h.rn).1 (e▸hq)
 rn:=(Cc.1 h.rn).2
 start:=h.start
 hs x hx:=by
  rcases Ba.1 hx with hx | hx
  .exact h.hs x hx
  .rw [Dl.1 hx]
   exact hl
theorem RCore.evic {s:Sta} {r:Rd} {rest:List Pn} (b:Base s) (h:RCore s r rest) {ids:List Int} (hn:ids.Nodup) (hin:∀ id∈ids,0<=aP (bD id) r.s.run 0):RCore s (lX r ids) rest:=by
 obtain ⟨f1,f2,f3,f4,_,f6,f7,_,_⟩:=yV r.s.run ids r
 have hp:=E7 r.s.run ids r
 refine ⟨f1.trans h.c,f2.trans h.now,f3.trans h.nxt,f4.trans h.hist,?_,fun p hp2=>hp.mem_iff.2 (Cu _ (h.sub p hp2)),h.rn,fun e=>?_,fun x hx=>h.hs x (Dx.1 hx).1⟩
 .show ((ids.foldl (dB r.s.run) r).s.pend++(aC r.s.run ids).map Rn.pn).Perm _
  refine Mh ?_ h.perm
  refine (Dq _ hp).trans ?_
  have h2:=(J0 (h.once b) hn hin).map Rn.pn
  rw [Bu,Fg] at h2
  refine (Dq _ Du).trans ?_
  rw [Ai]
  exact Dt _ h2
 .show (ids.foldl (dB r.s.run) r).start=0
  rw [f7]
  refine h.start ?_
  rw [<-f6]
  exact e
theorem wI {s:Sta} {r:Rd} {rest:List Pn} (b:Base s) (h:RCore s r rest) {g:Gan} (hf:cK r.s.c r.s.run g=none) {ids:List Int} (hq:fS r.s.c r.s.run g=some ids):
  ids≠[]/\ids.Nodup/\ids.length<=39/\(∀ id∈ids,0<=aP (bD id) r.s.run 0)/\∃ x,cK r.s.c (aC r.s.run ids) g=some x:=by
 obtain ⟨_,h1,h2,h3⟩:=xK hq
 have hl:=aEV (h.once b) hq
 have hfew:=h.few b
 refine ⟨fun e=>?_,h1,by omega,fun id hid=>?_,Dc.1 h3⟩
 .subst e
  unfold pS at h3
  rw [fH,hf] at h3
  cases h3
 .obtain ⟨_,x,hx,e,_⟩:=h2 id hid
  exact B1 _ 0 x hx e
theorem aDB {s:Sta} {r:Rd} {p:Pn} {rest:List Pn} (b:Base s) (h:RCore s r (p::rest)) (he:r.ev.length<=900000):LookPre r p where
 c:=by rw [h.c];exact b.c
 run:=h.sm b
 pend:=by have:=h.few b;omega
 ev:=he
 pods:=(h.gangP b (h.sub p (Ar ..))).1
 start:=h.start
 cho hf ids hq:=by
  obtain ⟨a1,_,a3,a4,_⟩:=wI b h hf hq
  exact ⟨a1,by omega,a4⟩
theorem UG {s:Sta} {r:Rd} {p:Pn} {rest:List Pn} (b:Base s) (h:RCore s r (p::rest)):RCore s (cF r p) rest/\(cF r p).ev.length<=r.ev.length+40:=by
 have g1:=(h.gangP b (h.sub p (Ar ..))).1
 have hsk:=h.skip
 have ha:∀ {q:Rd},RCore s q (p::rest)->RCore s (admR q p).1 rest/\(admR q p).1.ev.length<=q.ev.length+1:=fun {q} hq=>by
  unfold admR
  cases hf:cK q.s.c q.s.run p.g with
  | none=>exact ⟨hq.skip,Jh _⟩
  | some x=>
   have hx:=aAA g1 hf
   obtain ⟨fl,hs⟩:=x
   unfold DR
   dsimp only
   split
   .exact ⟨hq.skip,Jh _⟩
   .exact ⟨hq.adm b hx,by show (q.ev++[_]).length<=_;simp⟩
 unfold cF
 split
 .exact ⟨(ha h).1,by have:=(ha h).2;omega⟩
 .rename_i h2
  split
  .exact ⟨hsk,by omega⟩
  .rename_i hh
   have hhd:r.head=false:=by cases hq:r.head with | false=>rfl | true=>exact absurd hq hh
   have hfn:cK r.s.c r.s.run p.g=none:=by
    cases hf:cK r.s.c r.s.run p.g with
    | none=>rfl
    | some x=>
     obtain ⟨fl,hs⟩:=x
     refine absurd ?_ h2
     unfold admR
     rw [hf]
     unfold DR
     dsimp only
     rw [hhd]
     rfl
   cases hq:fS r.s.c r.s.run p.g with
   | none=>
    show RCore s (X9 r p _) rest/\(X9 r p _).ev.length<=_
    cases sF r.s.c r.s.now r.s.run p.g with
    | none=>exact ⟨hsk,by show r.ev.length<=_;omega⟩
    | some n=>exact ⟨⟨hsk.c,hsk.now,hsk.nxt,hsk.hist,hsk.perm,hsk.sub,hsk.rn,fun e=>(by cases e),hsk.hs⟩,by show (r.ev++[_]).length<=_;simp⟩
   | some ids=>
    obtain ⟨_,c2,c3,c4,_⟩:=wI b h hfn hq
    obtain ⟨k1,k2⟩:=ha (h.evic b c2 c4)
    refine ⟨k1,?_⟩
    have k3:(lX r ids).ev.length=r.ev.length+ids.length:=(yV r.s.run ids r).2.2.2.2.2.2.2.2
    show (admR (lX r ids) p).1.ev.length<=_
    omega
def IA (s:Sta) (r:Rd) (rest:List Pn):Prop:=RCore s r rest/\r.ev.length+100*rest.length<=900000
theorem vI {s:Sta} (b:Base s) (r:Rd) (p:Pn) (rest:List Pn) (h:IA s r (p::rest)):IA s (cF r p) rest:=by
 have he:=h.2
 rw [Bo] at he
 obtain ⟨h2,h3⟩:=UG b h.1
 exact ⟨h2,by omega⟩
theorem TP {s:Sta} (b:Base s) (r:Rd) (p:Pn) (rest:List Pn) (h:IA s r (p::rest)):zG r p/\IA s (cF r p) rest:=by
 have he:=h.2
 rw [Bo] at he
 exact ⟨ZX r p (aDB b h.1 (by omega)),vI b r p rest h⟩
structure RunOK (s:Sta):Prop where
 base:Base s
 sm:StaSm' s
 ord:OrdOK s
 at':lO s.pend
 tot:Tot (ltP s) s.pend
theorem RunOK.start {s:Sta} (h:RunOK s):IA s ⟨s,[],false,0⟩ (A0 s):=by
 have hp:(A0 s).Perm s.pend:=eJ _ _
 have hn:s.pend.Nodup:=by
  have:=h.base.ids
  rw [Bu,Bm] at this
  have:=this.1
  unfold Hv at this
  rw [Cw] at this
  exact Jl (fun h e=>h (by rw [e])) this
 have hl:=h.base.few
 rw [Aw] at hl
 have hlen:=hp.length_eq
 refine ⟨⟨rfl,rfl,rfl,rfl,Jm _,fun p hq=>hp.mem_iff.1 hq,hp.symm.nodup hn,fun _=>rfl,h.sm.run.2⟩,?_⟩
 show 0+_<=_
 omega
def nU (s:Sta):Rd:=(A0 s).foldl cF ⟨s,[],false,0⟩
theorem AF {s:Sta} (b:Base s):∀ (L:List Pn) (r:Rd),IA s r L->IA s (L.foldl cF r) []
 | [],_,h=>h
 | p::L,r,h=>AF b L (cF r p) (vI b r p L h)
theorem RunOK.few {s:Sta} (h:RunOK s):s.pend.length<40:=by
 have:=h.base.few
 rw [Aw] at this
 omega
theorem aCB (s:Sta) (h:RunOK s):aA Tryz.prog 76 [s.av] [] (.ret (.tup [(nU s).s.av,.slice 3 (evv (nU s).ev) .no])) []:=by
 have hf:=h.few
 have hl:(A0 s).length=s.pend.length:=(eJ _ _).length_eq
 exact aEK (IA s) (TP h.base) s h.sm (A0 s) (by omega) (Y1 s h.ord hf h.at' h.tot) h.start
def fF (s:Sta) (g:Gan):Sta×Int:=
 if iA s.c g≠0 then (s,iA s.c g) else
 if 0<=eM g.id s.pend\/0<=aP (bD g.id) s.run 0 then (s,5) else
 if (cK s.c [] g).isNone=true then (s,6) else
 if 32<=s.pend.length+s.run.length then (s,8) else
 ({s with pend:=jJ s.pend ⟨g,s.nxt,s.now⟩,nxt:=s.nxt+1},0)
def jZ (l:List Rn) (t:Int):List Ev:=(l.filter fun x=>decide (dC x<=t)).map fun x=>⟨3,x.g.id,0⟩
def eG (s:Sta) (n:Int):Sta×List Ev×Int:=
 if n<1\/1048576<n then (s,[],1) else
 if 1099511627776-n<s.now then (s,[],8) else
 ({s with hist:=tkL s.hist (oQ s.c s.run) n s.c.half,now:=s.now+n,run:=atL s.run (s.now+n)},jZ s.run (s.now+n),0)
abbrev dU (s:Sta):AObj:=.cells 31 s.cs
theorem TL (l:List Pn) (a:Int) (hl:l.length<=1000000):aA Tryz.prog 42 [.slice 11 (pnv l) .no,ii a] [] (.ret (ii (eM a l))) []:=by
 have h:=Q2.findref_ok (l.map Pn.q) a
 rw [rT] at h
 exact h
theorem aAr {c:Con} {g:Gan} (h:iA c g=0):(0<=g.pods/\g.pods<=16)/\aU g.need=true:=by
 unfold iA at h
 split at h
 .rename_i hb
  unfold MJ at hb
  simp only [Ag,decide_eq_true_eq] at hb
  exact ⟨⟨by omega,by omega⟩,hb.2.1⟩
 .omega
theorem nJ {x:Rn} {l:List Rn} {t:Int} (h:dC x<=t):jZ (x::l) t=⟨3,x.g.id,0⟩::jZ l t:=by
 unfold jZ
 rw [Hl,if_pos (decide_eq_true h)]
 rfl
theorem rA {x:Rn} {l:List Rn} {t:Int} (h:¬ dC x<=t):jZ (x::l) t=jZ l t:=by
 unfold jZ
 rw [Hl,if_neg (by simpa using h)]
def aV (s:Sta) (x:Cmd):Sta×List Ev×Int:=
 if C8.chk x≠0 then (s,[],C8.chk x) else
 if x.k=1 then (if bB x.c≠0 then (s,[],bB x.c) else if 0<s.pend.length+s.run.length then (s,[],7) else ({s with c:=x.c,hist:=Ah x.c.ns.length 0},[],0)) else
 if x.k=2 then ((fF s x.g).1,[],(fF s x.g).2) else
 if x.k=5 then eG s x.n else
 if x.k=6 then ((nU s).s,(nU s).ev,0) else
 if 0<=aP (bD x.n) s.run 0 then ({s with run:=aC s.run [x.n]},[],0) else
 if x.k=3\/eM x.n s.pend<0 then (s,[],4) else
 ({s with pend:=cI s.pend x.n},[],0)
structure StOK (s:Sta):Prop where
 c:s.c.sm
 run:RunOK s
 half:s.c.half<=9223372036854775807
 nxt:0<=s.nxt/\s.nxt<=1099511627777
theorem aI0 {x:Cmd} (h:C8.chk x=0):1<=x.k/\x.k<=6:=by
 unfold C8.chk at h
 split at h
 .rename_i hb
  simpa using hb
 .omega
theorem mR (s:Sta) (h:StaSm' s):aA Tryz.prog 68 [s.av] [] (.ret s.av) []:=by
 have h1:=HW s.c.ns h.ns
 have h2:=HX s.c.hs h.hs
 have h3:=O7 s.pend h.pend
 have h4:=O8 s.hist h.hist
 have h5:=aA.nil2 (by have h:=sA s.run h.run [] (by simp);rw [fH] at h;exact h)
 refine cT (E:=E) (fn:=Tryz.f68) (g:=.pure _) fun _=>?_
 exact zW
theorem W9 (s:Sta) (id:Int) (hl:s.run.length<=1048576):aA Tryz.prog 152 [s.av,ii id] [] (.ret (ii (aP (bD id) s.run 0))) []:=by
 have h:=BR _ id (EB id) s.run hl
 generalize aP (bD id) s.run 0=r at *
 refine cT (E:=E) (fn:=Tryz.f152) (g:=.pure _) fun _=>?_
 exact zW
theorem F4:aA Tryz.prog 33 [] [] (.ret (Sta.av ⟨⟨[],[],0,0⟩,0,1,[],[],[]⟩)) []:=by
 refine cT (E:=E) (fn:=Tryz.f33) (g:=.pure _) fun _=>?_
 exact zW
abbrev aIb (s S:Sta) (g:Gan) (e:Int):Prop:=aA Tryz.prog 72 [.ref 0 0,g.av] [dU s] (.ret (ii e)) [dU S]
set_option maxHeartbeats 2000000 in
theorem aCo (s:Sta) (g:Gan) (hc:s.c.sm) (hp:s.pend.length<=1000000) (hl:s.run.length<=1000000) (hn:s.nxt<=1099511627777) (hn0:0<=s.nxt):aIb s (fF s g).1 g (fF s g).2:=by
 have h1:=XI s.c g
 have h2:=YK s.pend g.id
 have h3:=W9 s g.id (by omega)
 have hlp:(pnv s.pend).length=s.pend.length:=by simp
 have hlr:(rav s.run).length=s.run.length:=by simp
 unfold fF
 by_cases q1:iA s.c g≠0
 .rw [if_pos q1]
  have e1:(iA s.c g !=0)=true:=by simpa using q1
  generalize iA s.c g=e at *
  refine cT (E:=E) (fn:=Tryz.f72) (g:=.full 1 _ _) fun _=>?_
  exact zW
 rw [if_neg q1]
 have q1:iA s.c g=0:=Gm.1 q1
 obtain ⟨g1,g2⟩:=aAr q1
 rw [q1] at h1
 have h4:=ZL s.c hc g g1
 generalize eM g.id s.pend=a at *
 generalize aP (bD g.id) s.run 0=b at *
 by_cases q2:0<=a\/0<=b
 .rw [if_pos q2]
  by_cases q3:0<=a
  .refine cT (E:=E) (fn:=Tryz.f72) (g:=.full 1 _ _) fun _=>?_
   exact zW
  .have q4:0<=b:=by omega
   refine cT (E:=E) (fn:=Tryz.f72) (g:=.full 1 _ _) fun _=>?_
   exact zW
 rw [if_neg q2]
 have q3:a<0:=by omega
 have q4:b<0:=by omega
 cases hv:(cK s.c [] g).isNone with
 | true=>
  rw [hv] at h4
  rw [if_pos rfl]
  refine cT (E:=E) (fn:=Tryz.f72) (g:=.full 1 _ _) fun _=>?_
  exact zW
 | false=>
  rw [hv] at h4
  rw [if_neg (by decide)]
  by_cases q5:32<=s.pend.length+s.run.length
  .rw [if_pos q5]
   refine cT (E:=E) (fn:=Tryz.f72) (g:=.full 1 _ _) fun _=>?_
   exact zW
  .rw [if_neg q5]
   have h5:=GL s.pend ⟨g,s.nxt,s.now⟩ hp
   generalize jJ s.pend ⟨g,s.nxt,s.now⟩=pq at *
   refine cT (E:=E) (fn:=Tryz.f72) (g:=.full 1 _ _) fun _=>?_
   exact zW
theorem aE0 (n a b:Int) (r:Bool) (hr:(decide (a<=n)&&decide (n<=b))=r):aA Tryz.prog 156 [ii n,ii a,ii b] [] (.ret (.bool r)) []:=by
 by_cases h1:a<=n
 .by_cases h2:n<=b
  .have e:r=true:=by rw [<-hr,decide_eq_true h1,decide_eq_true h2];rfl
   subst e
   refine cT (E:=E) (fn:=Tryz.f156) (g:=.pure _) fun _=>?_
   repeat' first | (refine gN hE ?_;conv=>whnf) | exact rfl | refine aY ?_ | refine aN ?_ | refine aT fun h=>?_ | refine aF fun h=>?_ | refine ⟨fun h=>?_,fun h=>?_⟩ | refine aJ ?_ | refine ⟨_,rfl,?_⟩ | refine aD ?_ | fail
   all_goals exact congrArg (fun b=>Res.ret (AVal.bool b)) (decide_eq_true h2)
  .have e:r=false:=by rw [<-hr,decide_eq_true h1,decide_eq_false h2];rfl
   subst e
   refine cT (E:=E) (fn:=Tryz.f156) (g:=.pure _) fun _=>?_
   repeat' first | (refine gN hE ?_;conv=>whnf) | exact rfl | refine aY ?_ | refine aN ?_ | refine aT fun h=>?_ | refine aF fun h=>?_ | refine ⟨fun h=>?_,fun h=>?_⟩ | refine aJ ?_ | refine ⟨_,rfl,?_⟩ | refine aD ?_ | fail
   all_goals exact congrArg (fun b=>Res.ret (AVal.bool b)) (decide_eq_false h2)
 .have e:r=false:=by rw [<-hr,decide_eq_false h1];rfl
  subst e
  refine cT (E:=E) (fn:=Tryz.f156) (g:=.pure _) fun _=>?_
  exact zW
noncomputable abbrev aIP:Func:=Tryz.f75
abbrev aJl (R:Sta) (Q:List Ev) (e:Int):Goal:=.full 1 (.ret (.tup [.slice 3 (evv Q) .no,ii e])) [dU R]
set_option maxHeartbeats 1000000 in
theorem Z4 (s R:Sta) (hs:Sm s.run) (hR:R={s with run:=atL s.run s.now}) (Q:List Ev):∀ (m i:Nat) (ev:List Ev),i+m=s.run.length->ev.length<=i->ev++jZ (s.run.drop i) s.now=Q->
  To (Eo [6] []) aIP (aJl R Q 0) (.head (stk aIP 0) [(0,.ref 0 0),(6,.slice 3 (evv ev) (.own 1 0)),(55,.slice 14 (rav s.run) .no),(56,.int .i64 ((rav s.run).length:Nat)),(57,ii i)] [dU s,evT 0]):=by
 have hlen:(rav s.run).length=s.run.length:=by simp
 have hl:=hs.1
 intro m
 induction m with
 | zero=>
  intro i ev hi he hQ
  rw [Ae (by omega)] at hQ
  have hQ:ev++[]=Q:=hQ
  rw [Bg] at hQ
  subst hQ
  have ha:=aBD s.run hs s.now
  generalize atL s.run s.now=ra at *
  subst hR
  refine gV ?_
  exact zW
 | succ m ih=>
  intro i ev hi he hQ
  have hlt:i<s.run.length:=by omega
  rw [Ad hlt] at hQ
  have get:(rav s.run)[i]? =some s.run[i].av:=bN hlt
  generalize s.run[i]=x at hQ get
  have hen:=HJ x
  have hle:(evv ev).length<=1048576:=by simp;omega
  by_cases hq:dC x<=s.now
  .rw [nJ hq] at hQ
   have next:=ih (i+1) (ev++[⟨3,x.g.id,0⟩]) (by omega) (by simp;omega) (by rw [Ai];exact hQ)
   have ee:evv (ev++[⟨3,x.g.id,0⟩])=evv ev++[Ev.av ⟨3,x.g.id,0⟩]:=by simp
   rw [ee] at next
   generalize dC x=t at *
   clear ih hQ ee
   refine gV ?_
   exact zW
  .rw [rA hq] at hQ
   have next:=ih (i+1) ev (by omega) (by omega) hQ
   generalize dC x=t at *
   clear ih hQ
   refine gV ?_
   exact zW
set_option maxHeartbeats 1000000 in
theorem Z3 (s:Sta) (n:Int) (hc:s.c.sm) (hs:Sm s.run) (hh:LtF s.hist) (hhl:s.hist.length<=1048576) (hf:s.c.half<=9223372036854775807) (hn0:0<=s.now) (hn1:s.now<=1099511627776):
  ((eG s n).2.2≠0->aA Tryz.prog 75 [.ref 0 0,ii n] [dU s] (.ret (.tup [.slice 3 [] .nil,ii (eG s n).2.2])) [dU (eG s n).1])/\((eG s n).2.2=0->aA Tryz.prog 75 [.ref 0 0,ii n] [dU s] (.ret (.tup [.slice 3 (evv (eG s n).2.1) .no,ii 0])) [dU (eG s n).1]):=by
 have hb:=aE0 n 1 1048576 _ rfl
 unfold eG
 by_cases q1:n<1\/1048576<n
 .rw [if_pos q1]
  have e:(decide (1<=n)&&decide (n<=1048576))=false:=by
   rcases q1 with q | q
   .rw [decide_eq_false (by omega)];rfl
   .rw [decide_eq_false (show ¬ n<=1048576 by omega),Ci]
  rw [e] at hb
  refine ⟨fun _=>?_,fun h=>by cases h⟩
  refine cT (E:=(Eo [6] [])) (fn:=Tryz.f75) (g:=.full 1 _ _) fun _=>?_
  exact zW
 rw [if_neg q1]
 have q2:1<=n:=by omega
 have q3:n<=1048576:=by omega
 rw [decide_eq_true q2,decide_eq_true q3] at hb
 by_cases q4:1099511627776-n<s.now
 .rw [if_pos q4]
  refine ⟨fun _=>?_,fun h=>by cases h⟩
  refine cT (E:=(Eo [6] [])) (fn:=Tryz.f75) (g:=.full 1 _ _) fun _=>?_
  exact zW
 .rw [if_neg q4]
  refine ⟨fun h=>absurd rfl h,fun _=>?_⟩
  have hsf:=aCu s.c s.run
  have hsl:(oQ s.c s.run).length<=1048576:=by
   have:=hc.ns
   unfold oQ ofL lN
   rw [gT]
   simp
   omega
  have h1:=TC s.c hc s.run hs.1
  have h2:=aCe s.hist (oQ s.c s.run) hh hhl hsf hsl n s.c.half (by omega) hf
  have nx:=Z4 {s with hist:=tkL s.hist (oQ s.c s.run) n s.c.half,now:=s.now+n} {s with hist:=tkL s.hist (oQ s.c s.run) n s.c.half,now:=s.now+n,run:=atL s.run (s.now+n)} hs rfl _ s.run.length 0 [] (by simp) (by simp) rfl
  rw [Bt] at nx
  generalize tkL s.hist (oQ s.c s.run) n s.c.half=th at *
  generalize oQ s.c s.run=sh at *
  generalize jZ s.run (s.now+n)=Q at *
  generalize atL s.run (s.now+n)=ra at *
  refine cT (E:=(Eo [6] [])) (fn:=Tryz.f75) (g:=.full 1 _ _) fun _=>?_
  exact zW
abbrev SF (s S:Sta) (c:Con) (e:Int):Prop:=aA Tryz.prog 71 [.ref 0 0,c.av] [dU s] (.ret (ii e)) [dU S]
theorem aBg (s:Sta) (c:Con) (hc:c.sm) (h:bB c≠0):SF s s c (bB c):=by
 have h1:=vP c hc
 generalize bB c=e at *
 have e1:(e !=0)=true:=by simpa using h
 refine cT (E:=(Er [] [24,38])) (fn:=Tryz.f71) (g:=.full 1 _ _) fun _=>?_
 exact zW
theorem VH (s:Sta) (c:Con) (hc:c.sm) (h:bB c=0) (hp:s.pend.length<=1000000) (hl:s.run.length<=1000000) (hb:0<s.pend.length+s.run.length):SF s s c 7:=by
 have h1:=vP c hc
 rw [h] at h1
 have hlp:(pnv s.pend).length=s.pend.length:=by simp
 have hlr:(rav s.run).length=s.run.length:=by simp
 refine cT (E:=(Er [] [24,38])) (fn:=Tryz.f71) (g:=.full 1 _ _) fun _=>?_
 exact zW
theorem V8 (c:Con):PQ c=Ah c.ns.length 0:=by
 unfold PQ
 have h:∀ (l:List Nod) (i:Nat),dE (fun _ _=>0) l i=Ah l.length 0:=by
  intro l
  induction l with
  | nil=>intro i;rfl
  | cons x l ih=>intro i;unfold dE;rw [ih];rfl
 exact h _ 0
set_option maxHeartbeats 1000000 in
theorem aEN (s:Sta) (c:Con) (hc:c.sm) (h:bB c=0) (hp:s.pend=[]) (hl:s.run=[]):SF s {s with c:=c,hist:=Ah c.ns.length 0} c 0:=by
 have h1:=vP c hc
 rw [h] at h1
 have hlp:(pnv s.pend).length=0:=by rw [hp];rfl
 have hlr:(rav s.run).length=0:=by rw [hl];rfl
 have hns:=hc.ns
 have hhs:=hc.hs
 have h2:=HW c.ns (by omega)
 have h3:=HX c.hs (by omega)
 have h4:=aBT c hc
 rw [V8] at h4
 generalize Ah c.ns.length 0=z at *
 refine cT (E:=(Er [] [24,38])) (fn:=Tryz.f71) (g:=.full 1 _ _) fun _=>?_
 repeat' first | (refine gN (hEr [] [24,38]) ?_;conv=>whnf) | refine .pure _ [] h1 ?_ | refine .pure _ [] h2 ?_ | exact rfl | refine aY ?_ | refine aN ?_ | refine aT fun h=>?_ | refine aF fun h=>?_ | refine ⟨fun h=>?_,fun h=>?_⟩ | refine aJ ?_ | refine ⟨_,rfl,?_⟩ | refine aD ?_ | fail
 refine .pure _ [] h3 ?_
 refine dP (hEr [] [24,38]) 27 ?_;conv=>whnf
 refine To.permAt (hEr [] [24,38]) [0,1,2,3,4,5,6,7,8] [9,10,11,12,13] (by rfl) ?_;conv=>whnf
 refine aL ?_;conv=>whnf;conv=>whnf
 refine aL ?_;conv=>whnf;conv=>whnf
 refine aL ?_;conv=>whnf;conv=>whnf
 refine aL ?_;conv=>whnf;conv=>whnf
 refine aL ?_;conv=>whnf;conv=>whnf
 refine aL ?_;conv=>whnf
 exact zW
abbrev ofC (x:Cmd) (v:AVal):Prop:=aA Tryz.prog 70 [x.av] [] (.ret v) []
theorem aJk (x:Cmd) (hk:x.k=1):ofC x (.iface 138 (.agg x.c.cs)):=by
 obtain ⟨k,c,g,n⟩:=x
 dsimp only at hk
 subst hk
 refine cT (E:=E) (fn:=Tryz.f70) (g:=.pure _) fun _=>?_
 exact zW
theorem aJj (x:Cmd) (hk:x.k=2):ofC x (.iface 142 (.agg x.g.cs)):=by
 obtain ⟨k,c,g,n⟩:=x
 dsimp only at hk
 subst hk
 refine cT (E:=E) (fn:=Tryz.f70) (g:=.pure _) fun _=>?_
 exact zW
theorem aIm (x:Cmd) (hk:x.k=3):ofC x (.iface 145 (.agg [ii x.n])):=by
 obtain ⟨k,c,g,n⟩:=x
 dsimp only at hk
 subst hk
 refine cT (E:=E) (fn:=Tryz.f70) (g:=.pure _) fun _=>?_
 exact zW
theorem aGJ (x:Cmd) (hk:x.k=4):ofC x (.iface 147 (.agg [ii x.n])):=by
 obtain ⟨k,c,g,n⟩:=x
 dsimp only at hk
 subst hk
 refine cT (E:=E) (fn:=Tryz.f70) (g:=.pure _) fun _=>?_
 exact zW
theorem aJi (x:Cmd) (hk:x.k=5):ofC x (.iface 149 (.agg [ii x.n])):=by
 obtain ⟨k,c,g,n⟩:=x
 dsimp only at hk
 subst hk
 refine cT (E:=E) (fn:=Tryz.f70) (g:=.pure _) fun _=>?_
 exact zW
theorem aJh (x:Cmd) (hk:x.k=6):ofC x (.iface 152 (.agg [])):=by
 obtain ⟨k,c,g,n⟩:=x
 dsimp only at hk
 subst hk
 refine cT (E:=E) (fn:=Tryz.f70) (g:=.pure _) fun _=>?_
 exact zW
abbrev iO (s:Sta) (x:Cmd) (R:Sta×List Ev×Int):Prop:=aA Tryz.prog 30 [s.av,x.av] [] (.ret (.tup [R.1.av,.slice 3 (evv R.2.1) .no,ii R.2.2])) []
theorem aCz (s:Sta) (hs:StaSm' s) (x:Cmd) (e:Int) (he:C8.chk x=e) (h:e≠0):iO s x (s,[],e):=by
 have ho:=mR s hs
 have h1:=C8.check_any x e he
 have e1:(e !=0)=true:=by simpa using h
 refine cT (E:=E) (fn:=Tryz.f30) (g:=.pure _) fun _=>?_
 exact zW
set_option maxHeartbeats 1000000 in
theorem aIi (s:Sta) (hs:StaSm' s) (x:Cmd) (he:C8.chk x=0) (hk:x.k=2) (S:Sta) (e:Int) (hS:e≠0->S=s) (h2:aIb s S x.g e):iO s x (S,[],e):=by
 have ho:=mR s hs
 have h1:=C8.check_any x 0 he
 have hf:=aJj x hk
 by_cases h0:e=0
 .subst h0
  refine cT (E:=E) (fn:=Tryz.f30) (g:=.pure _) fun _=>?_
  repeat' first | (refine gN hE ?_;conv=>whnf) | refine .pure _ [] ho ?_ | refine .pure _ [] h1 ?_ | refine .pure _ [] hf ?_ | refine .eff [] [4] _ _ rfl h2 ?_ | exact rfl | refine aY ?_ | refine aN ?_ | refine aT fun h=>?_ | refine aF fun h=>?_ | refine ⟨fun h=>?_,fun h=>?_⟩ | refine aJ ?_ | refine ⟨_,rfl,?_⟩ | refine aD ?_ | fail
 .have e1:(e !=0)=true:=by simpa using h0
  rw [hS h0] at h2⊢
  refine cT (E:=E) (fn:=Tryz.f30) (g:=.pure _) fun _=>?_
  repeat' first | (refine gN hE ?_;conv=>whnf) | refine .pure _ [] ho ?_ | refine .pure _ [] h1 ?_ | refine .pure _ [] hf ?_ | refine .eff [] [4] _ _ rfl h2 ?_ | refine Ac (fun _=>?_) (fun h=>absurd (e1.symm.trans h) (by decide)) | exact rfl | refine aY ?_ | refine aN ?_ | refine aT fun h=>?_ | refine aF fun h=>?_ | refine ⟨fun h=>?_,fun h=>?_⟩ | refine aJ ?_ | refine ⟨_,rfl,?_⟩ | refine aD ?_ | fail
set_option maxHeartbeats 1000000 in
theorem aIf (s:Sta) (hs:StaSm' s) (x:Cmd) (he:C8.chk x=0) (hk:x.k=6) (S:Sta) (ev:List Ev) (h2:aA Tryz.prog 76 [s.av] [] (.ret (.tup [S.av,.slice 3 (evv ev) .no])) []):iO s x (S,ev,0):=by
 have ho:=mR s hs
 have h1:=C8.check_any x 0 he
 have hf:=aJh x hk
 refine cT (E:=E) (fn:=Tryz.f30) (g:=.pure _) fun _=>?_
 exact zW
set_option maxHeartbeats 1000000 in
theorem aIg (s:Sta) (hs:StaSm' s) (x:Cmd) (he:C8.chk x=0) (hk:x.k=5) (S:Sta) (ev:List Ev) (e:Int) (hS:e≠0->S=s/\ev=[])
  (h2:(e≠0->aA Tryz.prog 75 [.ref 0 0,ii x.n] [dU s] (.ret (.tup [.slice 3 [] .nil,ii e])) [dU S])/\(e=0->aA Tryz.prog 75 [.ref 0 0,ii x.n] [dU s] (.ret (.tup [.slice 3 (evv ev) .no,ii 0])) [dU S])):iO s x (S,ev,e):=by
 have ho:=mR s hs
 have h1:=C8.check_any x 0 he
 have hf:=aJi x hk
 by_cases h0:e=0
 .have h3:=h2.2 h0
  subst h0
  refine cT (E:=E) (fn:=Tryz.f30) (g:=.pure _) fun _=>?_
  repeat' first | (refine gN hE ?_;conv=>whnf) | refine .pure _ [] ho ?_ | refine .pure _ [] h1 ?_ | refine .pure _ [] hf ?_ | refine .eff [] [4] _ _ rfl h3 ?_ | exact rfl | refine aY ?_ | refine aN ?_ | refine aT fun h=>?_ | refine aF fun h=>?_ | refine ⟨fun h=>?_,fun h=>?_⟩ | refine aJ ?_ | refine ⟨_,rfl,?_⟩ | refine aD ?_ | fail
 .have e1:(e !=0)=true:=by simpa using h0
  have h3:=h2.1 h0
  obtain ⟨rfl,rfl⟩:=hS h0
  refine cT (E:=E) (fn:=Tryz.f30) (g:=.pure _) fun _=>?_
  repeat' first | (refine gN hE ?_;conv=>whnf) | refine .pure _ [] ho ?_ | refine .pure _ [] h1 ?_ | refine .pure _ [] hf ?_ | refine .eff [] [4] _ _ rfl h3 ?_ | refine Ac (fun _=>?_) (fun h=>absurd (e1.symm.trans h) (by decide)) | exact rfl | refine aY ?_ | refine aN ?_ | refine aT fun h=>?_ | refine aF fun h=>?_ | refine ⟨fun h=>?_,fun h=>?_⟩ | refine aJ ?_ | refine ⟨_,rfl,?_⟩ | refine aD ?_ | fail
set_option maxHeartbeats 1000000 in
theorem XK (s:Sta) (hs:StaSm' s) (x:Cmd) (he:C8.chk x=0) (hk:x.k=1) (S:Sta) (e:Int) (hS:e≠0->S=s) (h2:SF s S x.c e):iO s x (S,[],e):=by
 have ho:=mR s hs
 have h1:=C8.check_any x 0 he
 have hf:=aJk x hk
 by_cases h0:e=0
 .subst h0
  refine cT (E:=E) (fn:=Tryz.f30) (g:=.pure _) fun _=>?_
  repeat' first | (refine gN hE ?_;conv=>whnf) | refine .pure _ [] ho ?_ | refine .pure _ [] h1 ?_ | refine .pure _ [] hf ?_ | refine .eff [] [4] _ _ rfl h2 ?_ | exact rfl | refine aY ?_ | refine aN ?_ | refine aT fun h=>?_ | refine aF fun h=>?_ | refine ⟨fun h=>?_,fun h=>?_⟩ | refine aJ ?_ | refine ⟨_,rfl,?_⟩ | refine aD ?_ | fail
 .have e1:(e !=0)=true:=by simpa using h0
  rw [hS h0] at h2⊢
  refine cT (E:=E) (fn:=Tryz.f30) (g:=.pure _) fun _=>?_
  repeat' first | (refine gN hE ?_;conv=>whnf) | refine .pure _ [] ho ?_ | refine .pure _ [] h1 ?_ | refine .pure _ [] hf ?_ | refine .eff [] [4] _ _ rfl h2 ?_ | refine Ac (fun _=>?_) (fun h=>absurd (e1.symm.trans h) (by decide)) | exact rfl | refine aY ?_ | refine aN ?_ | refine aT fun h=>?_ | refine aF fun h=>?_ | refine ⟨fun h=>?_,fun h=>?_⟩ | refine aJ ?_ | refine ⟨_,rfl,?_⟩ | refine aD ?_ | fail
theorem N7 (n:Nat) (id:Int) (hcl:∀ x:Rn,aA Tryz.prog n [x.av,.ptr [ii id]] [] (.ret (.bool (bD id x))) []) (l:List Rn) (hl:l.length<=1048576) (r:Int):∀ (m i:Nat),i+m=l.length->aP (bD id) (l.drop i) i=r->
  To E FA (.full 1 (.ret (ii r)) (vM l)) (.head (stk FA 0) [(0,.row 0 0),(1,idF n id),(7,.int .i64 ((rav l).length:Nat)),(8,ii i)] (vM l)):=by
 have hlen:(rav l).length=l.length:=by simp
 intro m
 induction m with
 | zero=>
  intro i hi hr
  rw [Ae (by omega)] at hr
  have hr: -1=r:=hr
  subst hr
  refine gV ?_
  exact zW
 | succ m ih=>
  intro i hi hr
  have hlt:i<l.length:=by omega
  rw [Ad hlt] at hr
  have get:(rav l)[i]? =some l[i].av:=bN hlt
  generalize l[i]=x at hr get
  unfold aP at hr
  have hb:=hcl x
  have ih:=ih (i+1) (by omega)
  cases hq:bD id x with
  | true=>
   rw [if_pos hq] at hr
   rw [hq] at hb
   subst hr
   refine gV ?_
   exact zW
  | false=>
   rw [if_neg (by rw [hq];decide)] at hr
   rw [hq] at hb
   have next:=ih hr
   refine gV ?_
   exact zW
theorem aAh (n:Nat) (id:Int) (hcl:∀ x:Rn,aA Tryz.prog n [x.av,.ptr [ii id]] [] (.ret (.bool (bD id x))) []) (l:List Rn) (hl:l.length<=1048576):aA Tryz.prog 229 [.row 0 0,idF n id] (vM l) (.ret (ii (aP (bD id) l 0))) (vM l):=by
 have h:=N7 n id hcl l hl _ l.length 0 (by omega) rfl
 rw [Bt] at h
 generalize aP (bD id) l 0=r at *
 refine cT (E:=E) (fn:=Tryz.f229) (g:=.full 1 _ _) fun _=>?_
 exact zW
theorem D4 (s:Sta) (id:Int) (hl:s.run.length<=1048576):aA Tryz.prog 152 [s.avR 0 0,ii id] (vM s.run) (.ret (ii (aP (bD id) s.run 0))) (vM s.run):=by
 have h:=aAh _ id (EB id) s.run hl
 generalize aP (bD id) s.run 0=r at *
 refine cT (E:=E) (fn:=Tryz.f152) (g:=.full 1 _ _) fun _=>?_
 repeat' first | (refine gN hE ?_;conv=>whnf) | refine .eff [2] [0] _ _ rfl h ?_ | exact rfl | refine aY ?_ | refine aN ?_ | refine aT fun h=>?_ | refine aF fun h=>?_ | refine ⟨fun h=>?_,fun h=>?_⟩ | refine aJ ?_ | refine ⟨_,rfl,?_⟩ | refine aD ?_ | fail
 refine ⟨[],[0],⟨rfl,rfl⟩,rfl,rfl⟩
abbrev zH:AVal:=.agg [ii 0,ii 0,ii 0,ii 0,ii 0,ii 0,ii 0,ii 0,ii 0,ii 0,ii 0,ii 0,ii 0,.slice 1 [] .no]
theorem NM (xs:List Rn) (i:Nat) (hi:i<xs.length) (hx:xs.length<=1000000):aA Tryz.prog 154 [.row 0 0,.int .i64 i,.int .i64 ((i:Int)+1)] (vM xs)
  (.ret (.sub 0 0 0 (xs.length-1) 14)) [.row 0 14 53 (rav (xs.eraseIdx i)++[zH])]:=by
 refine cT (E:=E) (fn:=Tryz.f154) (g:=.full 1 _ _) fun _=>?_
 refine gV ?_
 refine ⟨i,rfl,?_⟩
 refine gV ?_
 refine ⟨i+1,by push_cast;rfl,?_⟩
 refine gV ?_
 refine ⟨xs.length,by simp,?_⟩
 refine gV ?_
 refine ⟨⟨⟨by omega,by omega⟩,by simp⟩,?_⟩
 refine gV ?_
 refine ⟨fun h=>?_,fun h=>?_⟩
 .simp at h
  omega
 .refine gV ?_
  refine ⟨i,rfl,?_⟩
  refine gV ?_
  refine ⟨by simp;omega,?_⟩
  refine gV ?_
  refine ⟨i+1,by push_cast;rfl,?_⟩
  refine gV ?_
  refine ⟨by simp;omega,?_⟩
  refine gV ?_
  have hlen:(rav xs).length=xs.length:=by simp
  have hl1:(Hw ((rav xs).length-(i+1)) (Hi (i+1) (rav xs))).length=xs.length-(i+1):=by simp
  rw [hl1,hlen]
  refine ⟨by omega,?_⟩
  refine gV ?_
  refine ⟨xs.length-1,by omega,?_⟩
  refine gV ?_
  refine ⟨xs.length,rfl,?_⟩
  refine gV ?_
  refine ⟨by simp;omega,?_⟩
  refine gV ?_
  refine ⟨[],[0],⟨rfl,rfl⟩,?_⟩;conv=>whnf
  refine ⟨?_,?_⟩
  .show Res.ret (.sub 0 0 0 (i+(xs.length-(i+1))) 14)=_
   rw [show i+(xs.length-(i+1))=xs.length-1 from by omega]
  .have h:=Q2.del_list (rav xs) i (by rw [hlen];exact hi) zH
   rw [hlen] at h
   have h2:(rav xs).eraseIdx i=rav (xs.eraseIdx i):=by simp only [rav,Gb,Bu,Iz,Ja]
   rw [h2] at h
   exact congrArg (fun l=>[AObj.row 0 14 53 l]) h
abbrev aIc (s:Sta) (run:AVal):AObj:=.cells 31 [.slice 11 (nav s.c.ns) .no,.slice 6 (hav s.c.hs) .no,ii s.c.half,ii s.c.age,ii s.now,ii s.nxt,.slice 11 (pnv s.pend) .no,run,.slice 1 (fv s.hist) .no]
abbrev aF6 (s:Sta):List AObj:=[aIc s (.row 1 0),.row 0 14 53 (rav s.run)]
theorem QA (s:Sta) (id:Int) (hl:s.run.length<=1000000) (h:¬ 0<=aP (bD id) s.run 0):aA Tryz.prog 73 [.ref 0 0,ii id] (aF6 s) (.ret (ii 4)) (aF6 s):=by
 have h1:=D4 s id (by omega)
 generalize aP (bD id) s.run 0=a at *
 refine cT (E:=E) (fn:=Tryz.f73) (g:=.full 2 _ _) fun _=>?_
 exact zW
theorem P9 (s:Sta) (id:Int) (i:Nat) (hl:s.run.length<=1000000) (hi:i<s.run.length) (h:aP (bD id) s.run 0=(i:Int)):aA Tryz.prog 73 [.ref 0 0,ii id] (aF6 s) (.ret (ii 0)) [aIc s (.sub 1 0 0 (s.run.length-1) 14),.row 0 14 53 (rav (s.run.eraseIdx i)++[zH])]:=by
 have h1:=D4 s id (by omega)
 have h2:=NM s.run i hi hl
 rw [h] at h1
 generalize s.run.length-1=q at *
 generalize rav (s.run.eraseIdx i)++[zH]=K at *
 refine cT (E:=E) (fn:=Tryz.f73) (g:=.full 2 _ _) fun _=>?_
 exact zW
set_option maxHeartbeats 1000000 in
theorem aGj (s:Sta) (hs:StaSm' s) (x:Cmd) (he:C8.chk x=0) (hk:x.k=3) (hl:s.run.length<=1000000) (h:¬ 0<=aP (bD x.n) s.run 0):iO s x (s,[],4):=by
 have ho:=yH s hs
 have h1:=C8.check_any x 0 he
 have hf:=aIm x hk
 have h2:=QA s x.n hl h
 refine cT (E:=E) (fn:=Tryz.f30) (g:=.pure _) fun _=>?_
 repeat' first | (refine gN hE ?_;conv=>whnf) | refine .pure _ _ ho ?_ | refine .pure _ [] h1 ?_ | refine .pure _ [] hf ?_ | refine .eff [] [6,5] _ _ rfl h2 ?_ | exact rfl | refine aY ?_ | refine aN ?_ | refine aT fun h=>?_ | refine aF fun h=>?_ | refine ⟨fun h=>?_,fun h=>?_⟩ | refine aJ ?_ | refine ⟨_,rfl,?_⟩ | refine aD ?_ | fail
theorem aBe (l:List Rn) (i:Nat) (hi:i<l.length):((rav (l.eraseIdx i)++[zH]).drop 0).take (l.length-1)=rav (l.eraseIdx i):=by
 have h:(rav (l.eraseIdx i)).length=l.length-1:=by simp [Kd,hi]
 rw [Bt,<-h,List.take_left']
 rfl
set_option maxHeartbeats 1000000 in
theorem aIh (s:Sta) (hs:StaSm' s) (x:Cmd) (he:C8.chk x=0) (hk:x.k=3) (hl:s.run.length<=1000000) (i:Nat) (hi:i<s.run.length) (h:aP (bD x.n) s.run 0=(i:Int)):iO s x ({s with run:=s.run.eraseIdx i},[],0):=by
 have ho:=yH s hs
 have h1:=C8.check_any x 0 he
 have hf:=aIm x hk
 have h2:=P9 s x.n i hl hi h
 have hc:=aBe s.run i hi
 unfold iO Sta.av Sta.cs
 dsimp only
 rw [<-hc]
 generalize s.run.length-1=q at *
 generalize rav (s.run.eraseIdx i)++[zH]=K at *
 clear hc
 refine cT (E:=E) (fn:=Tryz.f30) (g:=.pure _) fun _=>?_
 repeat' first | (refine gN hE ?_;conv=>whnf) | refine .pure _ _ ho ?_ | refine .pure _ [] h1 ?_ | refine .pure _ [] hf ?_ | refine .eff [] [6,5] _ _ rfl h2 ?_ | exact rfl | refine aY ?_ | refine aN ?_ | refine aT fun h=>?_ | refine aF fun h=>?_ | refine ⟨fun h=>?_,fun h=>?_⟩ | refine aJ ?_ | refine ⟨_,rfl,?_⟩ | refine aD ?_ | fail
set_option maxHeartbeats 1000000 in
theorem aGg (s:Sta) (hs:StaSm' s) (x:Cmd) (he:C8.chk x=0) (hk:x.k=4) (hp:s.pend.length<=1000000) (h:¬ eM x.n s.pend<0):iO s x ({s with pend:=cI s.pend x.n},[],0):=by
 have ho:=mR s hs
 have h1:=C8.check_any x 0 he
 have hf:=aGJ x hk
 have ht:=pJ s.pend x.n hp
 rw [decide_eq_false h] at ht
 generalize cI s.pend x.n=pq at *
 refine cT (E:=E) (fn:=Tryz.f30) (g:=.pure _) fun _=>?_
 exact zW
theorem IT {l:List Pn} {a:Int} (h:eM a l<0):cI l a=l:=by unfold cI;rw [if_pos h]
set_option maxHeartbeats 1000000 in
theorem aGi (s:Sta) (hs:StaSm' s) (x:Cmd) (he:C8.chk x=0) (hk:x.k=4) (hp:s.pend.length<=1000000) (hl:s.run.length<=1000000) (h:eM x.n s.pend<0) (hn:¬ 0<=aP (bD x.n) s.run 0):iO s x (s,[],4):=by
 have ho:=yH s hs
 have h1:=C8.check_any x 0 he
 have hf:=aGJ x hk
 have ht:=pJ s.pend x.n hp
 rw [decide_eq_true h,IT h] at ht
 have h2:=QA s x.n hl hn
 refine cT (E:=E) (fn:=Tryz.f30) (g:=.pure _) fun _=>?_
 repeat' first | (refine gN hE ?_;conv=>whnf) | refine .pure _ _ ho ?_ | refine .pure _ [] h1 ?_ | refine .pure _ [] hf ?_ | refine .pure _ [] ht ?_ | refine .eff [] [6,5] _ _ rfl h2 ?_ | exact rfl | refine aY ?_ | refine aN ?_ | refine aT fun h=>?_ | refine aF fun h=>?_ | refine ⟨fun h=>?_,fun h=>?_⟩ | refine aJ ?_ | refine ⟨_,rfl,?_⟩ | refine aD ?_ | fail
set_option maxHeartbeats 1000000 in
theorem aGh (s:Sta) (hs:StaSm' s) (x:Cmd) (he:C8.chk x=0) (hk:x.k=4) (hp:s.pend.length<=1000000) (hl:s.run.length<=1000000) (h:eM x.n s.pend<0) (i:Nat) (hi:i<s.run.length) (hn:aP (bD x.n) s.run 0=(i:Int)):iO s x ({s with run:=s.run.eraseIdx i},[],0):=by
 have ho:=yH s hs
 have h1:=C8.check_any x 0 he
 have hf:=aGJ x hk
 have ht:=pJ s.pend x.n hp
 rw [decide_eq_true h,IT h] at ht
 have h2:=P9 s x.n i hl hi hn
 have hc:=aBe s.run i hi
 unfold iO Sta.av Sta.cs
 dsimp only
 rw [<-hc]
 generalize s.run.length-1=q at *
 generalize rav (s.run.eraseIdx i)++[zH]=K at *
 clear hc
 refine cT (E:=E) (fn:=Tryz.f30) (g:=.pure _) fun _=>?_
 repeat' first | (refine gN hE ?_;conv=>whnf) | refine .pure _ _ ho ?_ | refine .pure _ [] h1 ?_ | refine .pure _ [] hf ?_ | refine .pure _ [] ht ?_ | refine .eff [] [6,5] _ _ rfl h2 ?_ | exact rfl | refine aY ?_ | refine aN ?_ | refine aT fun h=>?_ | refine aF fun h=>?_ | refine ⟨fun h=>?_,fun h=>?_⟩ | refine aJ ?_ | refine ⟨_,rfl,?_⟩ | refine aD ?_ | fail
theorem aFA (id:Int):∀ (l:List Rn) (k i:Nat),(l.map fun x=>x.g.id).Nodup->aP (bD id) l k=((k+i:Nat):Int)->l.eraseIdx i=aC l [id]
 | [],k,i,_,h=>by have h:(-1:Int)=((k+i:Nat):Int):=h;omega
 | x::l,k,i,hn,h=>by
  rw [Bk,Cc] at hn
  unfold aP at h
  by_cases hx:bD id x=true
  .rw [if_pos hx] at h
   obtain rfl:i=0:=by omega
   have hxi:x.g.id=id:=by unfold bD at hx;simpa using hx
   have h1:inB x.g.id [id]=true:=oB.2 (by rw [hxi];exact Hj _)
   rw [jG h1]
   show l=_
   refine (Fu.2 fun y hy=>?_).symm
   have:y.g.id≠id:=fun e=>hn.1 (by rw [hxi,<-e];exact Cm hy)
   cases hb:inB y.g.id [id] with
   | false=>rfl
   | true=>exact absurd (by simpa using oB.1 hb) this
  .rw [if_neg hx] at h
   rcases nH (bD id) l (k+1) with h2 | h2
   .omega
   .obtain ⟨j,rfl⟩:∃ j,i=j+1:=⟨i-1,by omega⟩
    have h1:inB x.g.id [id]=false:=by
     cases hb:inB x.g.id [id] with
     | false=>rfl
     | true=>exact absurd (by unfold bD;simpa using oB.1 hb) hx
    rw [jF h1]
    show x::l.eraseIdx j=_
    rw [aFA id l (k+1) j hn.2 (by rw [h];congr 1;omega)]
theorem SQ {s:Sta} (b:Base s) {n:Int} (h1:¬ eM n s.pend<0) (h2:0<=aP (bD n) s.run 0):False:=by
 obtain ⟨x1,x2⟩:=kL h2
 rcases uH n s.pend with ⟨_,h⟩ | ⟨A,p,B,e,hp,_⟩
 .omega
 .have hi:=b.ids
  rw [Bu,Bm] at hi
  exact hi.2.2 n (by rw [e,<-hp];exact Cm (Cu _ (Ar ..))) n (by rw [<-x2,Fg];exact Cm (f:=(fun x=>x.g.id) ∘ Rn.pn) x1) rfl
theorem IX (s:Sta) (g:Gan):(fF s g).2≠0->(fF s g).1=s:=by
 unfold fF
 iterate 4 (split;· exact fun _=>rfl)
 exact fun h=>absurd rfl h
theorem D0 (s:Sta) (n:Int):(eG s n).2.2≠0->(eG s n).1=s/\(eG s n).2.1=[]:=by
 unfold eG
 iterate 2 (split;· exact fun _=>⟨rfl,rfl⟩)
 exact fun h=>absurd rfl h
theorem gQ (s:Sta) (x:Cmd) (h:StOK s) (hc:x.k=1->x.c.sm):iO s x (aV s x):=by
 have hsm:=h.run.sm
 have hbf:=h.run.base.few
 have hone:=Y9 (RCore.once h.run.base (s:=s) (r:=⟨s,[],false,0⟩) (rest:=[]) ⟨rfl,rfl,rfl,rfl,Jm _,fun p hp=>(by cases hp),Gi,fun _=>rfl,hsm.run.2⟩)
 rw [Aw,Cj] at hbf
 unfold aV
 by_cases q0:C8.chk x≠0
 .rw [if_pos q0]
  exact aCz s hsm x _ rfl q0
 rw [if_neg q0]
 have q0:C8.chk x=0:=Gm.1 q0
 have hk:=aI0 q0
 by_cases q1:x.k=1
 .rw [if_pos q1]
  have hcm:=hc q1
  by_cases q2:bB x.c≠0
  .rw [if_pos q2]
   exact XK s hsm x q0 q1 _ _ (fun _=>rfl) (aBg s x.c hcm q2)
  rw [if_neg q2]
  have q2:bB x.c=0:=Gm.1 q2
  by_cases q3:0<s.pend.length+s.run.length
  .rw [if_pos q3]
   exact XK s hsm x q0 q1 _ _ (fun _=>rfl) (VH s x.c hcm q2 (by omega) (by omega) q3)
  .rw [if_neg q3]
   exact XK s hsm x q0 q1 _ _ (fun e=>absurd rfl e) (aEN s x.c hcm q2 (Br.1 (by omega)) (Br.1 (by omega)))
 rw [if_neg q1]
 by_cases q2:x.k=2
 .rw [if_pos q2]
  exact aIi s hsm x q0 q2 _ _ (IX s x.g) (aCo s x.g h.c (by omega) (by omega) h.nxt.2 h.nxt.1)
 rw [if_neg q2]
 by_cases q5:x.k=5
 .rw [if_pos q5]
  exact aIg s hsm x q0 q5 _ _ _ (D0 s x.n) (Z3 s x.n h.c hsm.run h.run.ord.lt h.run.ord.hl h.half h.run.ord.now.1 h.run.ord.now.2)
 rw [if_neg q5]
 by_cases q6:x.k=6
 .rw [if_pos q6]
  exact aIf s hsm x q0 q6 _ _ (aCB s h.run)
 rw [if_neg q6]
 by_cases q7:0<=aP (bD x.n) s.run 0
 .rw [if_pos q7]
  obtain ⟨i,hi⟩:∃ i:Nat,aP (bD x.n) s.run 0=(i:Int):=⟨_,(Int.toNat_of_nonneg q7).symm⟩
  have hlt:i<s.run.length:=by
   rcases nH (bD x.n) s.run 0 with h2 | h2<;>omega
  rw [<-aFA x.n s.run 0 i hone (by rw [hi];congr 1;omega)]
  by_cases q3:x.k=3
  .exact aIh s hsm x q0 q3 (by omega) i hlt hi
  .have hq:eM x.n s.pend<0:=Li fun e=>SQ h.run.base e q7
   exact aGh s hsm x q0 (by omega) (by omega) (by omega) hq i hlt hi
 rw [if_neg q7]
 by_cases q8:x.k=3\/eM x.n s.pend<0
 .rw [if_pos q8]
  by_cases q3:x.k=3
  .exact aGj s hsm x q0 q3 (by omega) q7
  .exact aGi s hsm x q0 (by omega) (by omega) (by omega) (q8.resolve_left q3) q7
 .rw [if_neg q8]
  exact aGg s hsm x q0 (by omega) (by omega) (by omega)
abbrev cmv (l:List Cmd):List AVal:=l.map Cmd.av
noncomputable abbrev aFv:Func:=Tryz.f32
def xB:List Cmd->Sta->List Int->Sta×List Int
 | [],s,es=>(s,es)
 | x::l,s,es=>xB l (aV s x).1 (es++[(aV s x).2.2])
set_option maxHeartbeats 1000000 in
theorem T4 (L:List Cmd) (hL:L.length<=1000000) (Ok:Sta->List Cmd->Prop) (hO:∀ s x l,Ok s (x::l)->iO s x (aV s x)/\Ok (aV s x).1 l) (R:Sta×List Int):∀ (m i:Nat) (s:Sta) (es:List Int),i+m=L.length->es.length<=i->Ok s (L.drop i)->xB (L.drop i) s es=R->
  To (Eo [5] []) aFv (.pure (.ret (.tup [R.1.av,.slice 1 (iv R.2) .no]))) (.head (stk aFv 0) [(2,.ref 0 0),(4,.ref 1 0),(5,.slice 1 (iv es) (.own 2 0)),(10,.slice 15 (cmv L) .no),(11,.int .i64 ((cmv L).length:Nat)),(12,ii i)] [aFc,dU s,.tail 0 1 43]):=by
 have hlen:(cmv L).length=L.length:=by simp
 intro m
 induction m with
 | zero=>
  intro i s es hi he _ hR
  rw [Ae (by omega)] at hR
  have hR:(s,es)=R:=hR
  subst hR
  refine gV ?_
  exact zW
 | succ m ih=>
  intro i s es hi he ho hR
  have hlt:i<L.length:=by omega
  rw [Ad hlt] at hR ho
  have get:(cmv L)[i]? =some L[i].av:=by simp [hlt]
  generalize L[i]=x at hR ho get
  obtain ⟨h1,h2⟩:=hO _ _ _ ho
  have next:=ih (i+1) (aV s x).1 (es++[(aV s x).2.2]) (by omega) (by simp;omega) h2 hR
  have hle:(iv es).length<=1048576:=by simp;omega
  have ee:iv (es++[(aV s x).2.2])=iv es++[ii (aV s x).2.2]:=by simp
  rw [ee] at next
  generalize aV s x=r at *
  clear ih hR ee
  refine gV ?_
  exact zW
def AA:Sta:=⟨⟨[],[],0,0⟩,0,1,[],[],[]⟩
theorem XE (L:List Cmd) (hL:L.length<=1000000) (Ok:Sta->List Cmd->Prop) (hO:∀ s x l,Ok s (x::l)->iO s x (aV s x)/\Ok (aV s x).1 l) (h0:Ok AA L):
  aA Tryz.prog 32 [.slice 15 (cmv L) .no] [] (.ret (.tup [(xB L AA []).1.av,.slice 1 (iv (xB L AA []).2) .no])) []:=by
 have h:=T4 L hL Ok hO (xB L AA []) L.length 0 AA [] (by omega) (by simp) (by rw [Bt];exact h0) (by rw [Bt])
 have hn:=F4
 generalize xB L AA []=R at *
 refine cT (E:=(Eo [5] [])) (fn:=Tryz.f32) (g:=.pure _) fun _=>?_
 exact zW
theorem zY {f:Rn->Int} (q:Rn->Bool):∀ {l:List Rn},(∀ x∈l,0<=f x)->bW ((l.filter q).map f)<=bW (l.map f)
 | [],_=>Dr _
 | x::l,h=>by
  have ih:=zY q (l:=l) fun y hy=>h y (Bj _ hy)
  have hx:=h x (Ar ..)
  have e:bW ((x::l).map f)=f x+bW (l.map f):=rfl
  by_cases hq:q x=true
  .rw [Eu hq,e]
   show f x+bW _<=_
   omega
  .rw [Et hq,e]
   omega
theorem IW {f:Rn->Int} {x:Rn}:∀ {l:List Rn},bW ((l++[x]).map f)=bW (l.map f)+f x
 | []=>by show f x+0=0+f x;omega
 | y::l=>by
  show f y+bW ((l++[x]).map f)=f y+bW (l.map f)+f x
  rw [IW]
  omega
theorem LX {c:Con} {free:List V3} {g:Gan} {hs:List Int}:DM c free g hs=true↔(hs.length:Int)=g.pods/\(∃ G∈gpL c g.lev,∀ u∈hs,u∈G)/\∀ u∈hs,0<=u/\u<(free.length:Int)/\((hs.count u:Nat):Int)<=fT ((free[u.toNat]?).getD V3.zero) g.need:=by
 constructor
 .intro h
  obtain ⟨h1,h2⟩:=SK h
  refine ⟨h1,?_,h2⟩
  unfold DM at h
  rw [if_pos h1,Il] at h
  obtain ⟨G,hG,h⟩:=h
  unfold HZ at h
  rw [Ag] at h
  exact ⟨G,hG,zL.1 h.1⟩
 .intro ⟨h1,⟨G,hG,h2⟩,h3⟩
  unfold DM
  rw [if_pos h1,Il]
  refine ⟨G,hG,?_⟩
  unfold HZ
  rw [zL.2 h2,Cb]
  unfold RS
  rw [Ch]
  intro u hu
  obtain ⟨a,b,d⟩:=h3 u hu
  unfold aD4
  rw [if_neg (by simp;omega),if_neg (by simp;omega)]
  have e:O5 u hs=((hs.count u:Nat):Int):=by unfold O5;rw [HT];omega
  rw [e]
  simp
  omega
theorem XW {free need:V3} {n:Int} (hv:aU need=true) (h1:1<=n) (h16:n<=16):n<=fT free need↔need.a*n<=free.a/\need.b*n<=free.b/\need.c*n<=free.c:=by
 constructor
 .exact iP hv h1
 .intro ⟨a,b,d⟩
  obtain ⟨ha,hb,hd⟩:=bL hv
  have key:∀ x y:Int,0<=x->x*n<=y->x<=y:=fun x y h0 h=>by
   have:x*1<=x*n:=Kk h1 h0
   omega
  have hf:cN need free=true:=DX.2 ⟨key _ _ ha.1 a,key _ _ hb.1 b,key _ _ hd.1 d⟩
  exact (QH hv hf n).2 ⟨h16,a,b,d⟩
structure NeedOK (g:Gan):Prop where
 v:aU g.need=true
 pods:1<=g.pods/\g.pods<=16
 lev:0<=g.pref/\g.pref<=g.lev/\g.lev<=3
 run:1<=g.run/\g.run<=1048576
 id:1<=g.id
theorem gS {c:Con} {g:Gan} (h:iA c g=0):NeedOK g:=by
 obtain ⟨h1,_⟩:=qV.1 h
 unfold MJ at h1
 simp only [Ag,decide_eq_true_eq] at h1
 exact ⟨h1.2.1,by omega,by omega,by omega,by omega⟩
def qH (p:V3->Int) (c:Con) (l:List Rn):Prop:=∀ j:Nat,j<c.hs.length->bW (l.map (jX p (j:Int)))<=p (bF c.hs (j:Int)).c
def aFH (c:Con) (r:Rn):Prop:=(r.hs.length:Int)=r.g.pods/\(∃ G∈gpL c r.g.lev,∀ u∈r.hs,u∈G)/\∀ u∈r.hs,0<=u/\u<(c.hs.length:Int)
structure HstOK (c:Con) (l:List Rn):Prop where
 a:qH V3.a c l
 b:qH V3.b c l
 d:qH V3.c c l
theorem qH.filter {p:V3->Int} {c:Con} {l:List Rn} (q:Rn->Bool) (hv:∀ v,aU v=true->0<=p v) (hn:∀ x∈l,NeedOK x.g) (h:qH p c l):qH p c (l.filter q):=fun j hj=>
 Fo (zY q fun x hx=>Ji (hv _ (hn x hx).v) (by omega)) (h j hj)
theorem HstOK.filter {c:Con} {l:List Rn} (q:Rn->Bool) (hn:∀ x∈l,NeedOK x.g) (h:HstOK c l):HstOK c (l.filter q):=
 ⟨h.a.filter q (fun _ hv=>(bL hv).1.1) hn,h.b.filter q (fun _ hv=>(bL hv).2.1.1) hn,h.d.filter q (fun _ hv=>(bL hv).2.2.1) hn⟩
theorem aHN {c:Con} {l:List Rn} (hc:bB c=0) (hn:∀ x∈l,NeedOK x.g) (hd:(l.map fun x=>x.g.id).Nodup) (hh:HstOK c l) {r:Rn} (hr:r∈l) (hp:aFH c r):DM c (dQ c (l.filter fun x=>!(x.g.id==r.g.id))) r.g r.hs=true:=by
 obtain ⟨p1,p2,p3⟩:=hp
 refine LX.2 ⟨p1,p2,fun u hu=>?_⟩
 obtain ⟨u0,u1⟩:=p3 u hu
 rw [BZ]
 refine ⟨u0,u1,?_⟩
 have hN:=hn r hr
 have hcnt:0<r.hs.count u:=Jd.2 hu
 have hle:r.hs.count u<=r.hs.length:=List.count_le_length
 have hpo:=hN.pods
 refine (XW hN.v (by omega) (by omega)).2 ?_
 obtain ⟨j,rfl⟩:∃ j:Nat,u=(j:Int):=⟨u.toNat,by omega⟩
 have hj:j<c.hs.length:=by omega
 have key:∀ p:V3->Int,Prj p->(∀ v,aU v=true->0<=p v/\p v<=1048576)->qH p c l->p r.g.need*((r.hs.count (j:Int):Nat):Int)<=p (((dQ c (l.filter fun x=>!(x.g.id==r.g.id)))[(j:Int).toNat]?).getD V3.zero):=fun p hp hv hs=>by
  rw [Ck,yS hp (fun j hj=>hv _ (H0 hc hj)) (fun x hx=>hv _ (hn x (Dx.1 hx).1).v) hj]
  have h1:=hs j hj
  rw [F2 (f:=jX p (j:Int)) hr hd] at h1
  have e:jX p (j:Int) r=p r.g.need*((r.hs.count (j:Int):Nat):Int):=rfl
  rw [<-e]
  omega
 exact ⟨key _ YO (fun _ hv=>(bL hv).1) hh.a,key _ YN (fun _ hv=>(bL hv).2.1) hh.b,key _ YM (fun _ hv=>(bL hv).2.2) hh.d⟩
theorem qH.more {p:V3->Int} {c:Con} {l:List Rn} {x:Rn} (hp:Prj p) (hc:bB c=0) (hv:∀ v,aU v=true->0<=p v/\p v<=1048576) (hr:∀ free need (n:Int),aU need=true->1<=n->n<=fT free need->p need*n<=p free) (hn:∀ y∈l,NeedOK y.g) (hx:NeedOK x.g)
  (hin:∀ u∈x.hs,((x.hs.count u:Nat):Int)<=fT (((dQ c l)[u.toNat]?).getD V3.zero) x.g.need) (h:qH p c l):qH p c (l++[x]):=by
 intro j hj
 rw [IW]
 have h0:=h j hj
 have e:jX p (j:Int) x=p x.g.need*((x.hs.count (j:Int):Nat):Int):=rfl
 by_cases hm:(j:Int)∈x.hs
 .have hpos:0<x.hs.count (j:Int):=Jd.2 hm
  have h1:=hr _ _ _ hx.v (by omega) (hin _ hm)
  rw [Ck,yS hp (fun j hj=>hv _ (H0 hc hj)) (fun x hx=>hv _ (hn x hx).v) hj,<-e] at h1
  have hz:0<=jX p (j:Int) x:=Ji (hv _ hx.v).1 (by omega)
  unfold cM at h1
  omega
 .rw [e,List.count_eq_zero.2 hm]
  simp
  omega
theorem HstOK.more {c:Con} {l:List Rn} {x:Rn} (hc:bB c=0) (hn:∀ y∈l,NeedOK y.g) (hx:NeedOK x.g) (hin:∀ u∈x.hs,((x.hs.count u:Nat):Int)<=fT (((dQ c l)[u.toNat]?).getD V3.zero) x.g.need) (h:HstOK c l):HstOK c (l++[x]):=
 ⟨h.a.more YO hc (fun _ hv=>(bL hv).1) (fun _ _ _ hv h1 hr=>(iP hv h1 hr).1) hn hx hin,h.b.more YN hc (fun _ hv=>(bL hv).2.1) (fun _ _ _ hv h1 hr=>(iP hv h1 hr).2.1) hn hx hin,h.d.more YM hc (fun _ hv=>(bL hv).2.2) (fun _ _ _ hv h1 hr=>(iP hv h1 hr).2.2) hn hx hin⟩
def rY (c:Con) (l:List Rn):Prop:=∀ i:Nat,i<c.ns.length->cN (atV (ofL c l) (i:Int)) (xE c (i:Int))=true
theorem aC0 {s:Sta}:TZ s=true↔rY s.c s.run:=by
 unfold TZ rY
 rw [Ch]
 exact ⟨fun h i hi=>h i (Gv.2 hi),fun h i hi=>h i (Gv.1 hi)⟩
theorem NeedOK.dem {g:Gan} (h:NeedOK g):(dem g).pos:=aEH h.v ⟨by have:=h.pods;omega,h.pods.2⟩
theorem rY.filter {c:Con} {l:List Rn} (q:Rn->Bool) (hn:∀ x∈l,NeedOK x.g) (h:rY c l):rY c (l.filter q):=fun i hi=>
 oX.2 ((aDc (fun x hx=>(hn x hx).dem) q (i:Int)).2.1.trans (oX.1 (h i hi)))
theorem rY.more {c:Con} {l:List Rn} {x:Rn} (hn:∀ y∈l,NeedOK y.g) (hx:NeedOK x.g) (hm:KJ c (ofL c l) x.g.ten (Go.Proofs.YtpomiadgghchnaaGreat.dem x.g)=true) (hl:aX c.ns x.g.ten=true) (h:rY c l):rY c (l++[x]):=by
 intro i hi
 by_cases hp:(i:Int)∈cJ c.ns x.g.ten
 .have h1:=(JP (fun y hy=>(hn y hy).dem) hx.dem hm _ hp).2
  have e:Q1 c x.g.ten (i:Int)=xE c (i:Int):=by
   unfold Q1 xE
   by_cases ht:(i:Int)=x.g.ten
   .rw [if_pos ht,ht,if_pos hl]
   .rw [if_neg ht,if_neg]
    intro hlf
    unfold cJ at hp
    rw [Hk] at hp
    exact ht (Q7 hlf hp)
  rw [<-e]
  exact h1
 .have e:atV (ofL c (l++[x])) (i:Int)=atV (ofL c l) (i:Int):=by
   have hok:c.ok (i:Int):=⟨by omega,by simpa using hi⟩
   rw [tO hok,tO hok,Jn]
   show nR c _ _ x=_
   unfold nR
   rw [if_neg]
   intro hq
   exact hp (by unfold cJ;rw [Hk];simpa using hq.2)
  rw [e]
  exact h i hi
theorem EJ:∀ {l ns:List Nod} {i:Nat},mH ns i l=true->∀ k (h:k<l.length),mY (rlB ns ((i+k:Nat):Int)) (i+k) l[k]=true
 | [],_,_,_,k,h=>absurd h (Mi _)
 | x::l,ns,i,h0,k,h=>by
  unfold mH at h0
  by_cases hx:mY (rlB ns i) i x=true
  .rw [if_pos hx] at h0
   cases k with
   | zero=>exact hx
   | succ k=>
    have:=EJ h0 k (by simpa using h)
    rw [show i+1+k=i+(k+1) from by omega] at this
    exact this
  .rw [if_neg hx] at h0
   cases h0
theorem qB {c:Con} (h:bB c=0):vE c/\mH c.ns 0 c.ns=true/\c.hs.all nE=true:=by
 unfold bB at h
 split at h
 .split at h
  .split at h
   .exact ⟨by assumption,by assumption,by assumption⟩
   .omega
  .omega
 .omega
theorem DY {v:V3} (h:aU v=true):v.pos:=by
 obtain ⟨a,b,d⟩:=bL h
 exact ⟨a.1,b.1,d.1⟩
theorem KB {c:Con} (h:bB c=0) {i:Nat} (hi:i<c.ns.length):(bX c.ns (i:Int)).n.pos/\(bX c.ns (i:Int)).b.pos:=by
 have h1:=EJ (qB h).2.1 i hi
 have e:bX c.ns (i:Int)=c.ns[i]:=by unfold bX;rw [Ck,Aa hi];rfl
 rw [e]
 unfold mY at h1
 have zp:∀ v:V3,zB v=true->v.pos:=fun v hv=>by
  unfold zB at hv
  simp at hv
  exact ⟨by omega,by omega,by omega⟩
 split at h1
 .cases h1
 .split at h1
  .simp only [Ag] at h1
   exact ⟨DY h1.1,DY h1.2.1⟩
  .simp only [Ag] at h1
   exact ⟨zp _ h1.1,zp _ h1.2.1⟩
theorem YJ {c:Con} (h:bB c=0):rY c []:=by
 intro i hi
 have hok:c.ok (i:Int):=⟨by omega,by simpa using hi⟩
 rw [tO hok]
 have hs:∀ p:V3->Int,Prj p->(∀ v:V3,v.pos->0<=p v)->0<=p (xE c (i:Int)):=fun p hp hv=>by
  have h0:0<=p (iJ c.ns (i:Int) (kT c.ns))/\p (iJ c.ns (i:Int) (kT c.ns))<=cM:=by
   unfold iJ
   have hz:=hp.zero
   have hnn:∀ e∈(bH c.ns (i:Int)).map fun t=>p (atV (kT c.ns) t),0<=e:=fun e he=>by
    obtain ⟨t,ht,rfl⟩:=Bx.1 he
    have hk:=kK c (i:Int) t ht
    rw [ZG hk]
    have ht2:t=(t.toNat:Int):=by have:=hk.1;omega
    rw [ht2]
    exact hv _ (KB h hk.2).1
   rw [F5 hp,hz,tI (Dr _) (by decide) hnn]
   have:=kN hnn
   unfold cM
   omega
  unfold xE
  split
  .rw [hp.add]
   have h1:=hv _ (KB h hi).2
   rw [qG h0.1 h0.2 h1]
   unfold cM
   omega
  .exact h0.1
 exact oX.2 ⟨hs _ YO fun _ h=>h.1,hs _ YN fun _ h=>h.2.1,hs _ YM fun _ h=>h.2.2⟩
theorem UV {c:Con} {free:List V3} {g:Gan} (hg:1<=g.pods) (hl:0<=g.pref/\g.pref<=g.lev/\g.lev<=3) {x:Int×List Int} (h:xI c free g=some x):(bF c.hs (x.2.headD 0)).f=x.1:=by
 have gstep:∀ (gs:List (List Int)),fdG c free g gs=some x->∃ gr∈gs,x=((bF c.hs (gr.headD 0)).f,inL free g gr)/\¬ ((inL free g gr).length:Int)<g.pods:=fun gs=>by
  induction gs with
  | nil=>intro h;cases h
  | cons gr r ih=>
   intro h
   unfold fdG at h
   by_cases h1:((inL free g gr).length:Int)<g.pods
   .rw [if_pos (decide_eq_true h1)] at h
    obtain ⟨q,q1,q2⟩:=ih h
    exact ⟨q,Bj _ q1,q2⟩
   .rw [if_neg (by rw [decide_eq_false h1];decide)] at h
    cases h
    exact ⟨gr,Ar ..,rfl,h1⟩
 have lstep:∀ (n:Nat) (lv:Int),fdL c free g n lv=some x->∃ lw,lv<=lw/\lw<lv+n/\fdG c free g (gpL c lw)=some x:=fun n=>by
  induction n with
  | zero=>intro lv h;cases h
  | succ n ih=>
   intro lv h
   unfold fdL at h
   cases hq:fdG c free g (gpL c lv) with
   | some y=>
    rw [hq] at h
    cases h
    exact ⟨lv,Dr _,by omega,hq⟩
   | none=>
    rw [hq] at h
    obtain ⟨lw,q1,q2,q3⟩:=ih (lv+1) h
    exact ⟨lw,by omega,by omega,q3⟩
 unfold xI at h
 obtain ⟨lw,l1,l2,l3⟩:=lstep _ _ h
 obtain ⟨gr,g1,rfl,g3⟩:=gstep _ l3
 have hin:(inL free g gr).headD 0∈gr:=by
  have hm:(inL free g gr).headD 0∈inL free g gr:=by
   cases hq:inL free g gr with
   | nil=>rw [hq] at g3;simp at g3;omega
   | cons y t=>exact Ar ..
  rcases N6 gr [] _ hm with h | h
  .cases h
  .exact h.1
 obtain ⟨_,a2⟩:=G8 (c:=c) (lv:=lw) (by omega) (by omega)
 have hk:=(H8 (by omega) (by omega)).1 ((a2 gr g1).2.2 _ hin).2.2
 unfold oT ofK at hk
 exact (Em hk).1.symm
abbrev Srt (l:List Pn):Prop:=l.Pairwise fun a b=>a.seq<b.seq
structure RunP (c:Con) (now:Int) (l:List Rn):Prop where
 time:∀ r∈l,r.at'<=r.st/\r.st<=now/\now<dC r/\(bF c.hs (r.hs.headD 0)).f=r.fl
 plc:∀ r∈l,aFH c r
 hst:HstOK c l
 quo:rY c l
def SX (c:Con) (nxt now:Int) (x:Pn):Prop:=iA c x.g=0/\(cK c [] x.g).isNone=false/\(0<=x.seq/\x.seq<nxt)/\0<=x.at'/\x.at'<=now
structure OkS (s:Sta):Prop where
 head:iR s.c=true\/bB s.c=0
 now:0<=s.now/\s.now<=1099511627776
 nxt:1<=s.nxt/\s.nxt<=1099511627776
 hist:s.hist.length=s.c.ns.length
 few:s.pend.length+s.run.length<=32
 row:Srt s.pend
 gang:∀ x∈s.pend++s.run.map Rn.pn,SX s.c s.nxt s.now x
 ids:((s.pend++s.run.map Rn.pn).map fun x=>x.g.id).Nodup
 seqs:((s.pend++s.run.map Rn.pn).map fun x=>x.seq).Nodup
 run:RunP s.c s.now s.run
theorem IZ {l:List Pn}:(l.map Pn.q).Pairwise (fun a b=>a.seq<b.seq)↔Srt l:=by
 rw [Cw]
 exact Nd
theorem QG {l:List Pn} (h:(l.map fun x=>x.g.id).Nodup):JC l=true↔Srt l:=by
 unfold JC
 rw [Q2.check_good]
 constructor
 .exact fun g=>IZ.1 g.seq
 .refine fun g=>⟨IZ.2 g,?_⟩
  rw [Cw]
  unfold Hv at h
  rw [Cw] at h
  exact h
theorem RB (p:Q2.Pend):∀ {l:List Q2.Pend},l.Pairwise (fun a b=>a.seq<b.seq)->(∀ x∈l,x.seq≠p.seq)->(Q2.insP p l).Pairwise (fun a b=>a.seq<b.seq)/\∀ x∈Q2.insP p l,x=p\/x∈l
 | [],_,_=>⟨Jg _ _,fun x hx=>.inl (Dl.1 hx)⟩
 | y::r,h,hn=>by
  rw [Cv] at h
  unfold Q2.insP
  by_cases hy:p.seq<y.seq
  .rw [if_pos hy]
   refine ⟨Cv.2 ⟨fun z hz=>?_,Cv.2 h⟩,fun x hx=>Bd.1 hx⟩
   rcases Bd.1 hz with rfl | hz
   .exact hy
   .have:=h.1 z hz
    omega
  .rw [if_neg hy]
   obtain ⟨h1,h2⟩:=RB p h.2 fun x hx=>hn x (Bj _ hx)
   have hne:=hn y (Ar ..)
   refine ⟨Cv.2 ⟨fun z hz=>?_,h1⟩,fun x hx=>?_⟩
   .rcases h2 z hz with rfl | hz
    .omega
    .exact h.1 z hz
   .rcases Bd.1 hx with rfl | hx
    .exact .inr (Ar ..)
    .rcases h2 x hx with rfl | hx
     .exact .inl rfl
     .exact .inr (Bj _ hx)
theorem QM {l:List Pn} {p:Pn} (h:Srt l) (hn:∀ x∈l,x.seq≠p.seq):Srt (jJ l p):=by
 refine IZ.1 ?_
 rw [YL,Q2.putP_ins]
 refine (RB p.q (IZ.2 h) fun x hx=>?_).1
 obtain ⟨y,hy,rfl⟩:=Bx.1 hx
 exact hn y hy
theorem IS {l:List Pn} {a:Int} (h:Srt l):Srt (cI l a):=by
 unfold cI
 split
 .exact h
 .exact h.sublist (List.eraseIdx_sublist ..)
structure SizOK (c:Con):Prop where
 ns:c.ns.length<=12
 hs:c.hs.length<=24
 half:0<=c.half/\c.half<=1048576
 age:0<=c.age/\c.age<=1048576
theorem nK {c:Con}:iR c=true↔c=⟨[],[],0,0⟩:=by
 obtain ⟨a,b,d,e⟩:=c
 unfold iR
 simp
theorem pP {c:Con} (h:iR c=true\/bB c=0):SizOK c:=by
 rcases h with h | h
 .rw [nK] at h
  subst h
  exact ⟨by simp,by simp,by decide,by decide⟩
 .have h1:=(qB h).1
  unfold vE at h1
  exact ⟨by omega,by omega,by omega,by omega⟩
theorem CB {c:Con} (h:iR c=true) (g:Gan):iA c g≠0:=by
 rw [nK] at h
 subst h
 intro e
 have h1:=(qV.1 e).2
 unfold aX at h1
 simp at h1
 omega
theorem BG {c:Con} (h:iR c=true\/bB c=0) {g:Gan} (hg:iA c g=0):bB c=0:=h.resolve_left fun e=>CB e g hg
theorem aG3 (s:Sta):ids s=(s.pend++s.run.map Rn.pn).map fun x=>x.g.id:=by
 unfold ids
 rw [Bu,Fg]
 rfl
theorem aCx (s:Sta):seqs s=(s.pend++s.run.map Rn.pn).map fun x=>x.seq:=by
 unfold seqs
 rw [Bu,Fg]
 rfl
theorem YT {s:Sta} {p:Pn}:pnB s p=true↔SX s.c s.nxt s.now p:=by
 unfold pnB SX
 simp only [Ag,decide_eq_true_eq,Ef]
theorem aER {s:Sta} (h:OkS s):CR s=true:=by
 have hids:=h.ids
 rw [Bu,Bm] at hids
 unfold CR aAj
 simp only [Ag,Fw,decide_eq_true_eq,Ch]
 refine ⟨⟨h.head,h.now,h.nxt,h.hist,h.few⟩,(QG hids.1).2 h.row,⟨fun p hp=>YT.2 (h.gang p (Dj _ hp)),fun r hr=>?_⟩,by rw [aG3];exact h.ids,by rw [aCx];exact h.seqs,aC0.2 h.run.quo⟩
 have hg:=h.gang r.pn (Cu _ (Cm hr))
 refine ⟨YT.2 hg,?_⟩
 obtain ⟨t1,t2,t3,t4⟩:=h.run.time r hr
 unfold rnB
 simp only [Ag,decide_eq_true_eq]
 have hd:=hids.2.1
 rw [Fg] at hd
 exact ⟨⟨⟨t1,t2⟩,t3⟩,aHN (BG h.head hg.1) (fun x hx=>gS (h.gang x.pn (Cu _ (Cm hx))).1) hd h.run.hst hr (h.run.plc r hr),t4⟩
theorem OkS.base {s:Sta} (h:OkS s):Base s where
 c:=⟨by have:=(pP h.head).ns;omega,by have:=(pP h.head).hs;omega⟩
 ids:=h.ids
 seqs:=h.seqs
 few:=by rw [Aw,Cj];have:=h.few;omega
 gang x hx:=by
  have hn:=gS (h.gang x hx).1
  have:=hn.pods
  have:=hn.id
  exact ⟨by omega,hn.v,by omega⟩
theorem qAb (s:Sta) {l:List Pn} (h:(l.map fun x=>x.seq).Nodup):Tot (ltP s) l:=by
 unfold Tot
 unfold Hv at h
 rw [Cw] at h
 exact h.imp fun h=>aDA s h
theorem OkS.st {s:Sta} (h:OkS s) (hl:LtF s.hist):StOK s:=by
 have hz:=pP h.head
 have h1:=hz.ns
 have h2:=hz.hs
 have h3:=hz.half
 have h4:=hz.age
 have h5:=h.hist
 have h6:=h.few
 have h7:=h.nxt
 have hsm:Sm s.run:=⟨by omega,fun x hx=>by
  have:=(h.run.plc x hx).1
  have:=(gS (h.gang x.pn (Cu _ (Cm hx))).1).pods
  have e:x.pn.g=x.g:=rfl
  rw [e] at this
  omega⟩
 have hseq:=h.seqs
 rw [Bu,Bm] at hseq
 exact ⟨h.base.c,⟨h.base,⟨by omega,by omega,by omega,hsm,by omega⟩,⟨h.base.c,h1,hl,by omega,h.now,by omega⟩,fun p hp=>(h.gang p (Dj _ hp)).2.2.2.1,qAb s hseq.1⟩,by omega,by omega⟩
theorem RunP.filter {c:Con} {now:Int} {l:List Rn} (q:Rn->Bool) (hn:∀ x∈l,NeedOK x.g) (h:RunP c now l):RunP c now (l.filter q):=
 ⟨fun r hr=>h.time r (Dx.1 hr).1,fun r hr=>h.plc r (Dx.1 hr).1,h.hst.filter q hn,h.quo.filter q hn⟩
theorem OkS.needs {s:Sta} (h:OkS s):∀ x∈s.run,NeedOK x.g:=fun x hx=>gS (h.gang x.pn (Cu _ (Cm hx))).1
theorem OkS.part {s:Sta} (h:OkS s) {pend:List Pn} {run:List Rn} {rest:List Pn} (hp:((pend++run.map Rn.pn)++rest).Perm (s.pend++s.run.map Rn.pn)) (hs:Srt pend) (hr:RunP s.c s.now run):OkS {s with pend:=pend,run:=run} where
 head:=h.head
 now:=h.now
 nxt:=h.nxt
 hist:=h.hist
 few:=by
  have h1:=hp.length_eq
  have h2:=h.few
  simp only [Aw,Cj] at h1
  show pend.length+run.length<=32
  omega
 row:=hs
 gang x hx:=h.gang x (hp.mem_iff.1 (Dj _ hx))
 ids:=by
  have h1:=((hp.map fun x=>x.g.id).nodup_iff).2 h.ids
  rw [Bu,Bm] at h1
  exact h1.1
 seqs:=by
  have h1:=((hp.map fun x=>x.seq).nodup_iff).2 h.seqs
  rw [Bu,Bm] at h1
  exact h1.1
 run:=hr
theorem B3 {α:Type} (q:α->Bool):∀ (l:List α),(l.filter q++l.filter fun x=>!q x).Perm l
 | []=>Jm _
 | x::l=>by
  have ih:=B3 q l
  by_cases hq:q x=true
  .rw [Eu hq,Et (by rw [hq];decide)]
   exact ih.cons x
  .rw [Et hq,Eu (by simpa using hq)]
   exact Ep.trans (ih.cons x)
theorem OkS.wo {s:Sta} (h:OkS s) (q:Rn->Bool):OkS {s with run:=s.run.filter q}:=by
 refine h.part (pend:=s.pend) (run:=s.run.filter q) (rest:=(s.run.filter fun x=>!q x).map Rn.pn) ?_ h.row (h.run.filter q h.needs)
 rw [Ai,<-Bu]
 exact Dt _ ((B3 q s.run).map _)
theorem OkS.take {s:Sta} (h:OkS s) (a:Int):OkS {s with pend:=cI s.pend a}:=by
 have hrun:=h.run
 rcases uH a s.pend with ⟨_,e⟩ | ⟨A,p,B,e1,e2,e3⟩
 .have:cI s.pend a=s.pend:=by unfold cI;rw [if_pos (by omega)]
  rw [this]
  exact h
 .have e:cI s.pend a=A++B:=by
   unfold cI
   rw [if_neg (by omega),e3,e1]
   show (A++p::B).eraseIdx A.length=_
   rw [Gz (Au _),Kx]
   rfl
  refine h.part (pend:=cI s.pend a) (run:=s.run) (rest:=[p]) ?_ (IS h.row) hrun
  rw [e,e1]
  refine Du.trans ?_
  show (p::((A++B)++_)).Perm _
  rw [Ai,Ai]
  exact Ep.symm
structure RK (s:Sta) (r:Rd):Prop where
 row:Srt r.s.pend
 run:RunP s.c s.now r.s.run
theorem RCore.gangA {s:Sta} {r:Rd} {rest:List Pn} (o:OkS s) (h:RCore s r rest):∀ x∈r.s.pend++r.s.run.map Rn.pn,SX s.c s.nxt s.now x:=fun x hx=>o.gang x (h.perm.mem_iff.1 hx)
theorem RCore.needs {s:Sta} {r:Rd} {rest:List Pn} (o:OkS s) (h:RCore s r rest):∀ x∈r.s.run,NeedOK x.g:=fun x hx=>gS (h.gangA o x.pn (Cu _ (Cm hx))).1
theorem RK.adm {s:Sta} {r:Rd} {p:Pn} {rest:List Pn} (o:OkS s) (h:RCore s r (p::rest)) (k:RK s r) {x:Int×List Int} (hf:cK r.s.c r.s.run p.g=some x):RK s (MO r p x.1 x.2):=by
 have hp:=h.gangA o p (Dj _ (h.sub p (Ar ..)))
 have hN:=gS hp.1
 have hc:=BG o.head hp.1
 rw [h.c] at hf
 unfold cK at hf
 split at hf
 .rename_i hm
  obtain ⟨f1,f2⟩:=aAD hN.v hN.pods.1 hN.lev hf
  have f3:=UV hN.pods.1 hN.lev hf
  obtain ⟨g1,g2,g3⟩:=LX.1 f2
  have hrun:=h.needs o
  refine ⟨IS k.row,⟨fun y hy=>?_,fun y hy=>?_,?_,?_⟩⟩
  .rcases Ba.1 hy with hy | hy
   .exact k.run.time y hy
   .rw [Dl.1 hy]
    have:=hp.2.2.2
    have:=hN.run
    have:=o.now
    refine ⟨by show p.at'<=r.s.now;rw [h.now];omega,by show r.s.now<=s.now;rw [h.now];omega,?_,f3⟩
    have hnw:=h.now
    unfold dC
    dsimp only
    split
    .omega
    .split<;>omega
  .rcases Ba.1 hy with hy | hy
   .exact k.run.plc y hy
   .rw [Dl.1 hy]
    exact ⟨g1,g2,fun u hu=>by have:=g3 u hu;rw [BZ] at this;exact ⟨this.1,this.2.1⟩⟩
  .exact k.run.hst.more hc hrun hN fun u hu=>(f1 u hu).2.2
  .exact k.run.quo.more hrun hN hm (qV.1 hp.1).2
 .cases hf
theorem LD (run:List Rn):∀ (ids:List Int) (r:Rd),Srt r.s.pend->((ids.map (fun id=>(xOf run id).pn)++r.s.pend).map fun x=>x.seq).Nodup->Srt (ids.foldl (dB run) r).s.pend
 | [],_,h,_=>h
 | id::ids,r,h,hn=>by
  rw [Av]
  have hp:=vO r.s.pend (xOf run id).pn
  rw [Bk,Cd,Bk,Cc] at hn
  refine LD run ids (dB run r id) (QM h fun x hx e=>hn.1 ?_) ?_
  .have e:x.seq=(xOf run id).pn.seq:=e
   rw [<-e]
   exact Cm (Cu _ hx)
  .have h1:(ids.map (fun id=>(xOf run id).pn)++(dB run r id).s.pend).Perm ((xOf run id).pn::(ids.map (fun id=>(xOf run id).pn)++r.s.pend)):=(Dt _ hp).trans Ep
   refine ((h1.map fun x=>x.seq).nodup_iff).2 ?_
   rw [Bk,Cc]
   exact hn
theorem RK.evic {s:Sta} {r:Rd} {rest:List Pn} (o:OkS s) (h:RCore s r rest) (k:RK s r) {ids:List Int} (hn:ids.Nodup) (hin:∀ id∈ids,0<=aP (bD id) r.s.run 0):RK s (lX r ids):=by
 refine ⟨LD r.s.run ids r k.row ?_,k.run.filter _ (h.needs o)⟩
 have h1:=(J0 (h.once o.base) hn hin).map Rn.pn
 rw [Bu,Fg] at h1
 have h2:((ids.map (fun id=>(xOf r.s.run id).pn)++r.s.pend)++(aC r.s.run ids).map Rn.pn).Perm (s.pend++s.run.map Rn.pn):=by
  refine Mh ?_ h.perm
  refine (Dq _ Du).trans ?_
  rw [Ai]
  exact Dt _ h1
 have h3:=((h2.map fun x=>x.seq).nodup_iff).2 o.seqs
 rw [Bu,Bm] at h3
 exact h3.1
theorem RK.admR {s:Sta} {r:Rd} {p:Pn} {rest:List Pn} (o:OkS s) (h:RCore s r (p::rest)) (k:RK s r):RK s (Go.Proofs.YtpomiadgghchnaaGreat.admR r p).1:=by
 unfold Go.Proofs.YtpomiadgghchnaaGreat.admR
 cases hf:cK r.s.c r.s.run p.g with
 | none=>exact k
 | some x=>
  obtain ⟨fl,hs⟩:=x
  unfold DR
  dsimp only
  split
  .exact k
  .exact k.adm o h hf
theorem RK.look {s:Sta} {r:Rd} {p:Pn} {rest:List Pn} (o:OkS s) (h:RCore s r (p::rest)) (k:RK s r):RK s (cF r p):=by
 unfold cF
 split
 .exact k.admR o h
 .rename_i h2
  split
  .exact k
  .rename_i hh
   have hhd:r.head=false:=by cases hq:r.head with | false=>rfl | true=>exact absurd hq hh
   have hfn:cK r.s.c r.s.run p.g=none:=by
    cases hf:cK r.s.c r.s.run p.g with
    | none=>rfl
    | some x=>
     obtain ⟨fl,hs⟩:=x
     refine absurd ?_ h2
     unfold Go.Proofs.YtpomiadgghchnaaGreat.admR
     rw [hf]
     unfold DR
     dsimp only
     rw [hhd]
     rfl
   cases hq:fS r.s.c r.s.run p.g with
   | none=>
    show RK s (X9 r p _)
    cases sF r.s.c r.s.now r.s.run p.g with
    | none=>exact k
    | some n=>exact ⟨k.row,k.run⟩
   | some ids=>
    obtain ⟨_,c2,_,c4,_⟩:=wI o.base h hfn hq
    exact (k.evic o h c2 c4).admR o (h.evic o.base c2 c4)
theorem EC {s:Sta} (o:OkS s):∀ (L:List Pn) (r:Rd),IA s r L->RK s r->RK s (L.foldl cF r)
 | [],_,_,k=>k
 | p::L,r,h,k=>EC o L (cF r p) (vI o.base r p L h) (k.look o h.1)
theorem OkS.round {s:Sta} (o:OkS s) (hl:LtF s.hist):OkS (nU s).s:=by
 have hst:=(o.st hl).run.start
 have h1:=(AF o.base (A0 s) _ hst).1
 have h2:=EC o (A0 s) _ hst ⟨o.row,o.run⟩
 have e:(nU s).s={s with pend:=(nU s).s.pend,run:=(nU s).s.run}:=by
  have a:=h1.c
  have b:=h1.now
  have c:=h1.nxt
  have d:=h1.hist
  change (nU s).s.c=s.c at a
  change (nU s).s.now=s.now at b
  change (nU s).s.nxt=s.nxt at c
  change (nU s).s.hist=s.hist at d
  rw [<-a,<-b,<-c,<-d]
 rw [e]
 refine o.part (rest:=[]) ?_ h2.row h2.run
 rw [Bg]
 exact h1.perm
theorem ND {s:Sta} (o:OkS s) (hl:LtF s.hist):(nU s).s.hist=s.hist/\(nU s).s.nxt=s.nxt/\(nU s).s.c=s.c/\(nU s).s.now=s.now:=by
 have h1:=(AF o.base (A0 s) _ (o.st hl).run.start).1
 exact ⟨h1.hist,h1.nxt,h1.c,h1.now⟩
theorem WV (h sh:List Nat) (n half:Int):LtF (tkL h sh n half):=by
 unfold tkL
 have key:∀ (l:List Nat) (i:Nat),LtF (dE (tkS sh n half) l i):=fun l=>by
  induction l with
  | nil=>intro i x hx;cases hx
  | cons y l ih=>
   intro i x hx
   rcases Bd.1 hx with rfl | hx
   .unfold tkS
    split
    .exact zC _ _
    .exact yN _ _
   .exact ih (i+1) x hx
 exact key h 0
theorem OkS.tick {s:Sta} (o:OkS s) (n:Int):OkS (eG s n).1/\(eG s n).1.nxt=s.nxt:=by
 unfold eG
 split
 .exact ⟨o,rfl⟩
 .split
  .exact ⟨o,rfl⟩
  .have hw:=o.wo fun x=>decide (s.now+n<dC x)
   have hnow:=o.now
   refine ⟨⟨hw.head,⟨by show 0<=s.now+n;omega,by show s.now+n<=_;omega⟩,hw.nxt,?_,hw.few,hw.row,fun x hx=>?_,hw.ids,hw.seqs,⟨fun r hr=>?_,hw.run.plc,hw.run.hst,hw.run.quo⟩⟩,rfl⟩
   .show (tkL _ _ _ _).length=_
    unfold tkL
    rw [gT]
    exact o.hist
   .obtain ⟨a,b,d,e,f⟩:=hw.gang x hx
    exact ⟨a,b,d,e,by show x.at'<=s.now+n;have f:x.at'<=s.now:=f;omega⟩
   .obtain ⟨a,b,d,e⟩:=hw.run.time r hr
    have hd:=(Dx.1 hr).2
    exact ⟨a,by show r.st<=s.now+n;have b:r.st<=s.now:=b;omega,of_decide_eq_true hd,e⟩
theorem OkS.conf {s:Sta} (o:OkS s) {c:Con} (hc:bB c=0) (h:¬ 0<s.pend.length+s.run.length):OkS {s with c:=c,hist:=Ah c.ns.length 0}:=by
 have hp:s.pend=[]:=Br.1 (by omega)
 have hr:s.run=[]:=Br.1 (by omega)
 obtain ⟨c0,now,nxt,pend,run,hist⟩:=s
 dsimp only at hp hr
 subst hp hr
 refine ⟨.inr hc,o.now,o.nxt,by simp,by simp,Jk,fun x hx=>(by cases hx),Gi,Gi,⟨fun r hr=>(by cases hr),fun r hr=>(by cases hr),?_,YJ hc⟩⟩
 have key:∀ p:V3->Int,(∀ v,aU v=true->0<=p v)->qH p c []:=fun p hv j hj=>hv _ (H0 hc hj)
 exact ⟨key _ fun _ hv=>(bL hv).1.1,key _ fun _ hv=>(bL hv).2.1.1,key _ fun _ hv=>(bL hv).2.2.1⟩
theorem UX {a:Int} {l:List Pn} (h:eM a l<0):∀ p∈l,p.g.id≠a:=by
 rcases uH a l with ⟨h1,_⟩ | ⟨A,p,B,_,_,h1⟩
 .exact h1
 .omega
theorem OkS.submit {s:Sta} (o:OkS s) (hn:s.nxt<1099511627776) (g:Gan):OkS (fF s g).1/\(fF s g).1.nxt<=s.nxt+1/\s.nxt<=(fF s g).1.nxt:=by
 unfold fF
 iterate 4 (split;· exact ⟨o,by show s.nxt<=s.nxt+1;omega,Dr _⟩)
 rename_i h1 h2 h3 h4
 have h1:iA s.c g=0:=Gm.1 h1
 refine ⟨?_,Dr _,by show s.nxt<=s.nxt+1;omega⟩
 have hp:=vO s.pend ⟨g,s.nxt,s.now⟩
 have hpp:(jJ s.pend ⟨g,s.nxt,s.now⟩++s.run.map Rn.pn).Perm (⟨g,s.nxt,s.now⟩::(s.pend++s.run.map Rn.pn)):=Dq _ hp
 have hnow:=o.now
 have hnx:=o.nxt
 refine ⟨o.head,o.now,⟨by show 1<=s.nxt+1;omega,by show s.nxt+1<=_;omega⟩,o.hist,?_,QM o.row fun x hx e=>?_,fun x hx=>?_,?_,?_,o.run⟩
 .have:=hp.length_eq
  rw [Bo] at this
  show (jJ s.pend _).length+s.run.length<=32
  omega
 .have:=(o.gang x (Dj _ hx)).2.2.1
  have e:x.seq=s.nxt:=e
  omega
 .rcases Bd.1 (hpp.mem_iff.1 hx) with rfl | hx
  .refine ⟨h1,by cases hq:(cK s.c [] g).isNone with | true=>exact absurd hq h3 | false=>rfl,⟨by show 0<=s.nxt;omega,by show s.nxt<s.nxt+1;omega⟩,hnow.1,Dr _⟩
  .obtain ⟨a,b,d,e⟩:=o.gang x hx
   exact ⟨a,b,⟨d.1,by show x.seq<s.nxt+1;omega⟩,e⟩
 .refine ((hpp.map fun x=>x.g.id).nodup_iff).2 (Cc.2 ⟨fun hm=>?_,o.ids⟩)
  obtain ⟨x,hx,e⟩:=Bx.1 hm
  have e:x.g.id=g.id:=e
  rcases Ba.1 hx with hx | hx
  .exact UX (by omega) x hx e
  .obtain ⟨r,hr,rfl⟩:=Bx.1 hx
   have:=B1 s.run 0 r hr e
   omega
 .refine ((hpp.map fun x=>x.seq).nodup_iff).2 (Cc.2 ⟨fun hm=>?_,o.seqs⟩)
  obtain ⟨x,hx,e⟩:=Bx.1 hm
  have:=(o.gang x hx).2.2.1
  have e:x.seq=s.nxt:=e
  omega
structure OkT (s:Sta):Prop where
 ok:OkS s
 lt:LtF s.hist
theorem OkT.apply {s:Sta} (o:OkT s) (hn:s.nxt<1099511627776) (x:Cmd):OkT (aV s x).1/\(aV s x).1.nxt<=s.nxt+1/\s.nxt<=(aV s x).1.nxt:=by
 have same:OkT s/\s.nxt<=s.nxt+1/\s.nxt<=s.nxt:=⟨o,by omega,Dr _⟩
 unfold aV
 split
 .exact same
 split
 .split
  .exact same
  .rename_i hc
   split
   .exact same
   .rename_i hb
    refine ⟨⟨o.ok.conf (Gm.1 hc) hb,fun y hy=>?_⟩,same.2⟩
    have:=List.eq_of_mem_replicate hy
    omega
 split
 .obtain ⟨h1,h2⟩:=o.ok.submit hn x.g
  refine ⟨⟨h1,?_⟩,h2⟩
  have:(fF s x.g).1.hist=s.hist:=by
   unfold fF
   iterate 4 (split;· rfl)
   rfl
  rw [this]
  exact o.lt
 split
 .obtain ⟨h1,h2⟩:=o.ok.tick x.n
  refine ⟨⟨h1,?_⟩,by rw [h2];exact same.2⟩
  unfold eG
  split
  .exact o.lt
  .split
   .exact o.lt
   .exact WV _ _ _ _
 split
 .obtain ⟨h1,h2,_⟩:=ND o.ok o.lt
  refine ⟨⟨o.ok.round o.lt,?_⟩,?_⟩
  .show LtF (nU s).s.hist
   rw [h1]
   exact o.lt
  .show (nU s).s.nxt<=_/\_<=(nU s).s.nxt
   rw [h2]
   exact same.2
 split
 .exact ⟨⟨o.ok.wo _,o.lt⟩,same.2⟩
 split
 .exact same
 .exact ⟨⟨o.ok.take _,o.lt⟩,same.2⟩
theorem aCn:OkT AA:=by
 refine ⟨⟨.inl (by decide),by decide,by decide,rfl,by decide,Jk,fun x hx=>(by cases hx),Gi,Gi,⟨fun r hr=>(by cases hr),fun r hr=>(by cases hr),⟨?_,?_,?_⟩,?_⟩⟩,fun x hx=>(by cases hx)⟩
 all_goals exact fun j hj=>absurd hj (Mi _)
def two (a:Int) (b:Int) (x:Rn):Bool:=!((x.g.id==a)||(x.seq==b))
def fpB (s:Sta) (p:Pn):Bool:=!((jL s.c.ns p.g==0)||(decide (p.at'<0)||decide (s.now<p.at')))&&s.run.all (two p.g.id p.seq)
def frB (l:List Rn):Nat->Nat->Bool
 | 0,_=>true
 | m+1,i=>(match l[i]? with
  | some x=>(l.take i).all (two x.g.id x.seq)
  | none=>true)&&frB l m (i+1)
def B7 (s:Sta):Int:=
 if wA s.c s.now s.run=0 then 0 else if 32<s.pend.length then 0 else if JC s.pend=false then 0 else if s.hist.length≠s.c.ns.length then 0 else
 if s.pend.all (fpB s)&&frB s.run s.run.length 0 then 1 else 0
noncomputable abbrev fFa:Func:=Tryz.f57
theorem aIy (s:Sta) (hl:s.run.length<=1048576) (i:Nat) (hi:i<1048576) (p:Pn) (r:Int):∀ (m k:Nat),k+m=s.run.length->((s.run.drop k).all (two p.g.id p.seq)=false->r=0)->
  ((s.run.drop k).all (two p.g.id p.seq)=true->To E fFa (.pure (.ret (ii r))) (.head (stk fFa 0) [(1,.ref 0 0),(3,.int .i64 ((i:Int)+1))] [.cells 31 s.cs]))->
  To E fFa (.pure (.ret (ii r))) (.head (stk fFa 1) [(1,.ref 0 0),(3,.int .i64 i),(4,.ref 1 0),(5,.int .i64 k)] [.cells 31 s.cs,.cells 102 p.cs]):=by
 have hlen:(rav s.run).length=s.run.length:=by simp
 intro m
 induction m with
 | zero=>
  intro k hk h0 cont
  have cont:=cont (by rw [Ae (by omega)];rfl)
  refine gV ?_
  exact zW
 | succ m ih=>
  intro k hk h0 cont
  have hlt:k<s.run.length:=by omega
  rw [Ad hlt,Fk] at h0 cont
  have get:=bN hlt
  generalize s.run[k]=x at get h0 cont
  have e0:two p.g.id p.seq x= !((x.g.id==p.g.id)||(x.seq==p.seq)):=rfl
  have next:=ih (k+1) (by omega)
  cases e1:x.g.id==p.g.id with
  | true=>
   obtain rfl:=h0 (by rw [e0,e1];rfl)
   clear next cont ih
   refine gV ?_
   exact zW
  | false=>
   cases e2:x.seq==p.seq with
   | true=>
    obtain rfl:=h0 (by rw [e0,e1,e2];rfl)
    clear next cont ih
    refine gV ?_
    exact zW
   | false=>
    have et:two p.g.id p.seq x=true:=by rw [e0,e1,e2];rfl
    rw [et,Cb] at h0 cont
    have next:=next h0 cont
    clear ih h0 cont
    refine gV ?_
    exact zW
theorem aHf (s:Sta) (hl:s.run.length<=1048576) (i:Nat) (y:Rn) (gi:(rav s.run)[i]? =some y.av) (hi:i<s.run.length) (r:Int):∀ (m k:Nat),k+m=i->(((s.run.take i).drop k).all (two y.g.id y.seq)=false->r=0)->
  (((s.run.take i).drop k).all (two y.g.id y.seq)=true->To E fFa (.pure (.ret (ii r))) (.head (stk fFa 2) [(1,.ref 0 0),(6,.int .i64 ((i:Int)+1))] [.cells 31 s.cs]))->
  To E fFa (.pure (.ret (ii r))) (.head (stk fFa 3) [(1,.ref 0 0),(6,.int .i64 i),(7,.int .i64 k)] [.cells 31 s.cs]):=by
 have hlen:(rav s.run).length=s.run.length:=by simp
 intro m
 induction m with
 | zero=>
  intro k hk h0 cont
  have cont:=cont (by rw [Ae (by rw [Ff];omega)];rfl)
  refine gV ?_
  exact zW
 | succ m ih=>
  intro k hk h0 cont
  have hlt:k<(s.run.take i).length:=by rw [Ff];omega
  rw [Ad hlt,Fk] at h0 cont
  rw [List.getElem_take] at h0 cont
  have get:=bN (show k<s.run.length by omega)
  generalize s.run[k]=x at get h0 cont
  have e0:two y.g.id y.seq x= !((x.g.id==y.g.id)||(x.seq==y.seq)):=rfl
  have next:=ih (k+1) (by omega)
  cases e1:x.g.id==y.g.id with
  | true=>
   obtain rfl:=h0 (by rw [e0,e1];rfl)
   clear next cont ih
   refine gV ?_
   exact zW
  | false=>
   cases e2:x.seq==y.seq with
   | true=>
    obtain rfl:=h0 (by rw [e0,e1,e2];rfl)
    clear next cont ih
    refine gV ?_
    exact zW
   | false=>
    have et:two y.g.id y.seq x=true:=by rw [e0,e1,e2];rfl
    rw [et,Cb] at h0 cont
    have next:=next h0 cont
    clear ih h0 cont
    refine gV ?_
    exact zW
theorem aHg (s:Sta) (hl:s.run.length<=1048576) (r:Int):∀ (m i:Nat),i+m=s.run.length->(if frB s.run m i then (1:Int) else 0)=r->
  To E fFa (.pure (.ret (ii r))) (.head (stk fFa 2) [(1,.ref 0 0),(6,.int .i64 i)] [.cells 31 s.cs]):=by
 have hlen:(rav s.run).length=s.run.length:=by simp
 intro m
 induction m with
 | zero=>
  intro i hi hr
  have hr:1=r:=hr
  subst hr
  refine gV ?_
  exact zW
 | succ m ih=>
  intro i hi hr
  have hlt:i<s.run.length:=by omega
  unfold frB at hr
  rw [Aa hlt] at hr
  have hr:(if ((s.run.take i).all (two s.run[i].g.id s.run[i].seq)&&frB s.run m (i+1))=true then (1:Int) else 0)=r:=hr
  have next:=aHf s hl i s.run[i] (bN hlt) hlt r i 0 (by omega) (fun h=>by rw [Bt] at h;rw [h] at hr;exact hr.symm) (fun h=>ih (i+1) (by omega) (by rw [Bt] at h;rw [h,Cb] at hr;exact hr))
  refine gV ?_
  exact zW
theorem aHh (s:Sta) (hc:s.c.sm) (hp:s.pend.length<=1000000) (hl:s.run.length<=1048576) (r:Int):∀ (m i:Nat),i+m=s.pend.length->(if (s.pend.drop i).all (fpB s)&&frB s.run s.run.length 0 then (1:Int) else 0)=r->
  To E fFa (.pure (.ret (ii r))) (.head (stk fFa 0) [(1,.ref 0 0),(3,.int .i64 i)] [.cells 31 s.cs]):=by
 have hlen:(pnv s.pend).length=s.pend.length:=by simp
 intro m
 induction m with
 | zero=>
  intro i hi hr
  rw [Ae (by omega)] at hr
  have next:=aHg s hl r s.run.length 0 (by omega) hr
  refine gV ?_
  exact zW
 | succ m ih=>
  intro i hi hr
  have hlt:i<s.pend.length:=by omega
  rw [Ad hlt,Fk] at hr
  have get:=GN hlt
  generalize s.pend[i]=p at get hr
  have hga:=yR s.c hc p.g
  have e0:fpB s p=(!((jL s.c.ns p.g==0)||(decide (p.at'<0)||decide (s.now<p.at')))&&s.run.all (two p.g.id p.seq)):=rfl
  have next:=aIy s hl i (by omega) p r s.run.length 0 (by omega)
  have ih:=ih (i+1) (by omega)
  cases e1:(jL s.c.ns p.g==0) with
  | true=>
   rw [e0,e1] at hr
   have hr:0=r:=hr
   subst hr
   generalize jL s.c.ns p.g=q at *
   clear next ih
   refine gV ?_
   exact zW
  | false=>
   by_cases q2:p.at'<0
   .rw [e0,e1,decide_eq_true q2] at hr
    have hr:0=r:=hr
    subst hr
    generalize jL s.c.ns p.g=q at *
    clear next ih
    refine gV ?_
    exact zW
   .by_cases q3:s.now<p.at'
    .rw [e0,e1,decide_eq_true q3,decide_eq_false q2] at hr
     have hr:0=r:=hr
     subst hr
     generalize jL s.c.ns p.g=q at *
     clear next ih
     refine gV ?_
     exact zW
    .rw [e0,e1,decide_eq_false q3,decide_eq_false q2] at hr
     have hr:(if (s.run.all (two p.g.id p.seq)&&(s.pend.drop (i+1)).all (fpB s))&&frB s.run s.run.length 0 then (1:Int) else 0)=r:=hr
     have next:=next (fun h=>by rw [Bt] at h;rw [h] at hr;exact hr.symm) (fun h=>ih (by rw [Bt] at h;rw [h,Cb] at hr;exact hr))
     generalize jL s.c.ns p.g=q at *
     clear ih hr
     refine gV ?_
     exact zW
theorem OE (s:Sta) (hc:s.c.sm) (hs:Sm s.run) (r:Int) (hr:B7 s=r):aA Tryz.prog 57 [s.av] [] (.ret (ii r)) []:=by
 have hw:=aHi s.c hc s.now s.run hs
 have l1:(pnv s.pend).length=s.pend.length:=by simp
 have l2:(fv s.hist).length=s.hist.length:=by simp
 have l3:(nav s.c.ns).length=s.c.ns.length:=by simp
 unfold B7 at hr
 by_cases q1:wA s.c s.now s.run=0
 .rw [if_pos q1] at hr
  subst hr
  rw [q1] at hw
  refine cT (E:=E) (fn:=Tryz.f57) (g:=.pure _) fun _=>?_
  exact zW
 rw [if_neg q1] at hr
 have e0:(wA s.c s.now s.run==0)=false:=beq_eq_false_iff_ne.2 q1
 generalize wA s.c s.now s.run=w at *
 by_cases q2:32<s.pend.length
 .rw [if_pos q2] at hr
  subst hr
  refine cT (E:=E) (fn:=Tryz.f57) (g:=.pure _) fun _=>?_
  exact zW
 rw [if_neg q2] at hr
 have hq:=Q2.checkref_ok (s.pend.map Pn.q) (by rw [Cj];omega)
 rw [rT,show Q2.checkP (s.pend.map Pn.q)=JC s.pend from rfl] at hq
 cases q3:JC s.pend with
 | false=>
  rw [if_pos q3] at hr
  subst hr
  rw [q3] at hq
  refine cT (E:=E) (fn:=Tryz.f57) (g:=.pure _) fun _=>?_
  exact zW
 | true=>
  rw [if_neg (by rw [q3];decide)] at hr
  rw [q3] at hq
  by_cases q4:s.hist.length≠s.c.ns.length
  .rw [if_pos q4] at hr
   subst hr
   have e1:(((fv s.hist).length:Int) !=((nav s.c.ns).length:Int))=true:=by rw [l2,l3];simp;omega
   refine cT (E:=E) (fn:=Tryz.f57) (g:=.pure _) fun _=>?_
   exact zW
  .rw [if_neg q4] at hr
   have q4:s.hist.length=s.c.ns.length:=Gm.1 q4
   have e1:(((fv s.hist).length:Int) !=((nav s.c.ns).length:Int))=false:=by rw [l2,l3,q4];simp
   have next:=aHh s hc (by omega) hs.1 r s.pend.length 0 (by omega) (by rw [Bt];exact hr)
   refine cT (E:=E) (fn:=Tryz.f57) (g:=.pure _) fun _=>?_
   exact zW
theorem LC {l:List Rn}:∀ {m i:Nat},frB l m i=true->∀ j (h:j<l.length),i<=j->j<i+m->(l.take j).all (two l[j].g.id l[j].seq)=true
 | 0,i,_,j,_,h1,h2=>by omega
 | m+1,i,h0,j,h,h1,h2=>by
  unfold frB at h0
  rw [Ag] at h0
  by_cases hj:j=i
  .subst hj
   have:=h0.1
   rw [Aa h] at this
   exact this
  .exact LC h0.2 j h (by omega) (by omega)
theorem WQ {a b:Int} {x:Rn} (h:two a b x=true):x.g.id≠a/\x.seq≠b:=by
 unfold two at h
 simpa using h
theorem aD2 {l:List Rn} (h:frB l l.length 0=true):l.Pairwise fun a b=>a.g.id≠b.g.id/\a.seq≠b.seq:=by
 rw [Fh]
 intro i j hi hj hij
 have h1:=LC h j hj (Cr _) (by omega)
 rw [Ch] at h1
 exact WQ (h1 l[i] (List.mem_take_iff_getElem.2 ⟨i,by omega,rfl⟩))
structure FairP (s:Sta):Prop where
 few:wA s.c s.now s.run=1
 pend:s.pend.length<=32
 row:JC s.pend=true
 hist:s.hist.length=s.c.ns.length
 gang:∀ p∈s.pend,jL s.c.ns p.g≠0/\0<=p.at'/\p.at'<=s.now
 two:∀ p∈s.pend,∀ x∈s.run,x.g.id≠p.g.id/\x.seq≠p.seq
 once:s.run.Pairwise fun a b=>a.g.id≠b.g.id/\a.seq≠b.seq
theorem aHk (c:Con) (now:Int) (l:List Rn):wA c now l=0\/wA c now l=1:=by
 unfold wA
 repeat' split
 all_goals first | exact .inl rfl | exact .inr rfl
theorem aHn {s:Sta} (h:B7 s≠0):FairP s:=by
 unfold B7 at h
 split at h
 .exact absurd rfl h
 split at h
 .exact absurd rfl h
 split at h
 .exact absurd rfl h
 split at h
 .exact absurd rfl h
 split at h
 .rename_i h1 h2 h3 h4 h5
  rw [Ag,Ch] at h5
  refine ⟨(aHk _ _ _).resolve_left h1,by omega,by simpa using h3,Gm.1 h4,fun p hp=>?_,fun p hp x hx=>?_,aD2 h5.2⟩
  .have:=h5.1 p hp
   unfold fpB at this
   simp only [Ag,Ef,Ih,beq_eq_false_iff_ne,decide_eq_false_iff_not] at this
   exact ⟨this.1.1,by omega,by omega⟩
  .have:=h5.1 p hp
   unfold fpB at this
   rw [Ag,Ch] at this
   exact WQ (this.2 x hx)
 .exact absurd rfl h
theorem BY {ns:List Nod} {g:Gan} (h:jL ns g≠0):K9 ns g=true:=by
 unfold jL at h
 split at h
 .assumption
 .exact absurd rfl h
theorem sN {ns:List Nod} {g:Gan} (h:K9 ns g=true):NeedOK g:=by
 unfold K9 at h
 simp only [Ag,decide_eq_true_eq] at h
 exact ⟨h.2.1,by omega,by omega,by omega,by omega⟩
theorem UY {c:Con} {now:Int} {l:List Rn} (h:wA c now l=1):bB c=0/\l.length<=32/\(0<=now/\now<=1099511627776)/\∀ x∈l,jL c.ns x.g≠0/\(0<=x.st/\x.st<=now)/\(x.hs.length:Int)=x.g.pods/\∀ u∈x.hs,0<=u/\u<(c.hs.length:Int):=by
 unfold wA at h
 split at h
 .omega
 .rename_i hb
  unfold PF at hb
  split at h
  .rename_i hl
   rw [Ch] at hl
   refine ⟨by omega,by omega,by omega,fun x hx=>?_⟩
   have h1:=hl x hx
   unfold aCC at h1
   split at h1
   .cases h1
   .rename_i h2
    unfold PE at h2
    unfold sM at h1
    rw [Ch] at h1
    exact ⟨by omega,by omega,by omega,fun u hu=>of_decide_eq_true (h1 u hu)⟩
  .omega
def nI (s:Sta):Int:=
 if iR s.c=true then (if (s.pend.length=0/\s.run.length=0/\s.hist.length=0)/\(0<=s.now/\s.now<=1099511627776)/\1<=s.nxt/\s.nxt<=1099511627776 then 1 else 0) else
 if s.nxt<1\/1099511627776<s.nxt\/32<s.pend.length+s.run.length then 0 else
 if s.pend.all (fun p=>decide (0<=p.seq/\p.seq<s.nxt))=true then B7 s else 0
structure FairS (s:Sta):Prop where
 siz:SizOK s.c
 chk:iR s.c=true\/bB s.c=0
 now:0<=s.now/\s.now<=1099511627776
 nxt:1<=s.nxt/\s.nxt<=1099511627776
 few:s.pend.length+s.run.length<=32
 hist:s.hist.length=s.c.ns.length
 row:Srt s.pend
 ids:((s.pend++s.run.map Rn.pn).map fun x=>x.g.id).Nodup
 seqs:((s.pend++s.run.map Rn.pn).map fun x=>x.seq).Nodup
 need:∀ x∈s.pend++s.run.map Rn.pn,NeedOK x.g
 at':∀ p∈s.pend,0<=p.at'/\p.at'<=s.now
 hs:∀ x∈s.run,x.hs.length<=16
theorem OC {s:Sta} (h:nI s≠0):FairS s:=by
 unfold nI at h
 split at h
 .rename_i he
  split at h
  .rename_i h1
   have hc:=nK.1 he
   obtain ⟨c,now,nxt,pend,run,hist⟩:=s
   dsimp only at *
   obtain ⟨⟨a,b,d⟩,e,f⟩:=h1
   obtain rfl:=Br.1 a
   obtain rfl:=Br.1 b
   obtain rfl:=Br.1 d
   subst hc
   exact ⟨pP (.inl he),.inl he,e,f,Cr _,rfl,Jk,Gi,Gi,fun x hx=>(by cases hx),fun x hx=>(by cases hx),fun x hx=>(by cases hx)⟩
  .exact absurd rfl h
 .split at h
  .exact absurd rfl h
  .split at h
   .rename_i h1 h2 h3
    have hp:=aHn h
    obtain ⟨p1,p2,p3,p4⟩:=UY hp.few
    have hg:Q2.Good (s.pend.map Pn.q):=Q2.check_good.1 hp.row
    have i1:(s.pend.map fun x=>x.g.id).Nodup:=by
     have:=hg.id
     rw [Cw] at this
     unfold Hv
     rw [Cw]
     exact this
    have i2:(s.pend.map fun x=>x.seq).Nodup:=by
     have:=hg.seq
     rw [Cw] at this
     unfold Hv
     rw [Cw]
     exact this.imp fun h e=>by have h:_<_:=h;exact absurd e (Int.ne_of_lt h)
    have j1:((s.run.map Rn.pn).map fun x=>x.g.id).Nodup:=by
     unfold Hv
     rw [Cw,Cw]
     exact hp.once.imp fun h=>h.1
    have j2:((s.run.map Rn.pn).map fun x=>x.seq).Nodup:=by
     unfold Hv
     rw [Cw,Cw]
     exact hp.once.imp fun h=>h.2
    refine ⟨pP (.inr p1),.inr p1,p3,by omega,by omega,hp.hist,IZ.1 hg.seq,?_,?_,fun x hx=>?_,fun p hx=>(hp.gang p hx).2,fun x hx=>?_⟩
    .rw [Bu,Bm]
     refine ⟨i1,j1,fun a ha b hb e=>?_⟩
     obtain ⟨p,hq,rfl⟩:=Bx.1 ha
     rw [Fg] at hb
     obtain ⟨x,hx,e2⟩:=Bx.1 hb
     exact (hp.two p hq x hx).1 (e2.trans e.symm)
    .rw [Bu,Bm]
     refine ⟨i2,j2,fun a ha b hb e=>?_⟩
     obtain ⟨p,hq,rfl⟩:=Bx.1 ha
     rw [Fg] at hb
     obtain ⟨x,hx,e2⟩:=Bx.1 hb
     exact (hp.two p hq x hx).2 (e2.trans e.symm)
    .rcases Ba.1 hx with hx | hx
     .exact sN (BY (hp.gang x hx).1)
     .obtain ⟨r,hr,rfl⟩:=Bx.1 hx
      exact sN (BY (p4 r hr).1)
    .have h1:=p4 x hx
     have h2:=(sN (BY h1.1)).pods
     have h3:=h1.2.2.1
     omega
   .exact absurd rfl h
theorem FairS.base {s:Sta} (h:FairS s):Base s where
 c:=⟨by have:=h.siz.ns;omega,by have:=h.siz.hs;omega⟩
 ids:=h.ids
 seqs:=h.seqs
 few:=by rw [Aw,Cj];have:=h.few;omega
 gang x hx:=by
  have hn:=h.need x hx
  have:=hn.pods
  have:=hn.id
  exact ⟨by omega,hn.v,by omega⟩
theorem FairS.sm {s:Sta} (h:FairS s):Sm s.run:=⟨by have:=h.few;omega,fun x hx=>by have:=h.hs x hx;omega⟩
theorem FairS.st {s:Sta} (h:FairS s) (hl:LtF s.hist):StOK s:=by
 have h1:=h.siz.ns
 have h2:=h.siz.hs
 have h3:=h.siz.half
 have h4:=h.siz.age
 have h5:=h.hist
 have h6:=h.few
 have h7:=h.nxt
 have hseq:=h.seqs
 rw [Bu,Bm] at hseq
 exact ⟨h.base.c,⟨h.base,⟨by omega,by omega,by omega,h.sm,by omega⟩,⟨h.base.c,h1,hl,by omega,h.now,by omega⟩,fun p hp=>(h.at' p hp).1,qAb s hseq.1⟩,by omega,by omega⟩
theorem FairS.tick {s:Sta} (h:FairS s) (n:Int):FairS (eG s n).1:=by
 unfold eG
 split
 .exact h
 .split
  .exact h
  .have hnow:=h.now
   have hf:(atL s.run (s.now+n)).Sublist s.run:=Ix
   have hm:(s.pend++(atL s.run (s.now+n)).map Rn.pn).Sublist (s.pend++s.run.map Rn.pn):=List.Sublist.append (Jo _) (hf.map _)
   refine ⟨h.siz,h.chk,⟨by show 0<=s.now+n;omega,by show s.now+n<=_;omega⟩,h.nxt,?_,?_,h.row,h.ids.sublist (hm.map _),h.seqs.sublist (hm.map _),fun x hx=>h.need x (hm.subset hx),fun p hp=>⟨(h.at' p hp).1,by have:=(h.at' p hp).2;show p.at'<=s.now+n;omega⟩,fun x hx=>h.hs x (hf.subset hx)⟩
   .have:=hf.length_le
    have:=h.few
    show s.pend.length+(atL _ _).length<=32
    omega
   .show (tkL _ _ _ _).length=_
    unfold tkL
    rw [gT]
    exact h.hist
theorem aCf {s:Sta} (h:LtF s.hist) (n:Int):LtF (eG s n).1.hist:=by
 unfold eG
 split
 .exact h
 .split
  .exact h
  .exact WV _ _ _ _
noncomputable abbrev fF4:Func:=Tryz.f18
theorem aEh (s:Sta) (hc:s.c.sm) (hs:Sm s.run) (hp:s.pend.length<=32) (r:Int):∀ (m i:Nat),i+m=s.pend.length->(if (s.pend.drop i).all (fun p=>decide (0<=p.seq/\p.seq<s.nxt))=true then B7 s else 0)=r->
  To E fF4 (.pure (.ret (ii r))) (.head (stk fF4 0) [(1,.ref 0 0),(3,ii i)] [.cells 31 s.cs]):=by
 have hlen:(pnv s.pend).length=s.pend.length:=by simp
 intro m
 induction m with
 | zero=>
  intro i hi hr
  rw [Ae (by omega)] at hr
  have hr:B7 s=r:=hr
  have h1:=OE s hc hs r hr
  refine gV ?_
  exact zW
 | succ m ih=>
  intro i hi hr
  have hlt:i<s.pend.length:=by omega
  rw [Ad hlt,Fk] at hr
  have get:=GN hlt
  generalize s.pend[i]=p at get hr
  have ih:=ih (i+1) (by omega)
  by_cases q:0<=p.seq/\p.seq<s.nxt
  .rw [decide_eq_true q,Cb] at hr
   have next:=ih hr
   clear ih hr
   refine gV ?_
   exact zW
  .rw [decide_eq_false q,Dz] at hr
   have hr:0=r:=hr
   subst hr
   clear ih
   by_cases q2:p.seq<0
   .refine gV ?_
    exact zW
   .have q3:s.nxt<=p.seq:=by omega
    refine gV ?_
    exact zW
set_option maxHeartbeats 2000000 in
theorem sP (s:Sta) (hc:s.c.sm) (hs:Sm s.run) (hpm:s.pend.length<=1048576) (r:Int) (hr:nI s=r):aA Tryz.prog 18 [s.av] [] (.ret (ii r)) []:=by
 have l1:(pnv s.pend).length=s.pend.length:=by simp
 have l2:(fv s.hist).length=s.hist.length:=by simp
 have l3:(nav s.c.ns).length=s.c.ns.length:=by simp
 have l4:(hav s.c.hs).length=s.c.hs.length:=by simp
 have l5:(rav s.run).length=s.run.length:=by simp
 have hsl:=hs.1
 unfold nI at hr
 by_cases q0:iR s.c=true
 .rw [if_pos q0] at hr
  have hce:=nK.1 q0
  have g1:(((nav s.c.ns).length:Int)==0)=true:=by rw [hce];rfl
  have g2:(((hav s.c.hs).length:Int)==0)=true:=by rw [hce];rfl
  have g3:(s.c.half==0)=true:=by rw [hce];rfl
  have g4:(s.c.age==0)=true:=by rw [hce];rfl
  obtain ⟨b1,e1⟩:∃ b,(((pnv s.pend).length:Int)==0)=b:=⟨_,rfl⟩
  obtain ⟨b2,e2⟩:∃ b,(((rav s.run).length:Int)==0)=b:=⟨_,rfl⟩
  obtain ⟨b3,e3⟩:∃ b,(((fv s.hist).length:Int)==0)=b:=⟨_,rfl⟩
  have k1:b1=true↔s.pend.length=0:=by rw [<-e1,beq_iff_eq];omega
  have k2:b2=true↔s.run.length=0:=by rw [<-e2,beq_iff_eq];omega
  have k3:b3=true↔s.hist.length=0:=by rw [<-e3,beq_iff_eq];omega
  by_cases q1:(s.pend.length=0/\s.run.length=0/\s.hist.length=0)/\(0<=s.now/\s.now<=1099511627776)/\1<=s.nxt/\s.nxt<=1099511627776
  .rw [if_pos q1] at hr
   subst hr
   obtain rfl:=k1.2 q1.1.1
   obtain rfl:=k2.2 q1.1.2.1
   obtain rfl:=k3.2 q1.1.2.2
   refine cT (E:=E) (fn:=Tryz.f18) (g:=.pure _) fun _=>?_
   exact zW
  .rw [if_neg q1] at hr
   subst hr
   cases b1 with
   | false=>
     refine cT (E:=E) (fn:=Tryz.f18) (g:=.pure _) fun _=>?_
     exact zW
   | true=>
    cases b2 with
    | false=>
     refine cT (E:=E) (fn:=Tryz.f18) (g:=.pure _) fun _=>?_
     exact zW
    | true=>
     cases b3 with
     | false=>
     refine cT (E:=E) (fn:=Tryz.f18) (g:=.pure _) fun _=>?_
     exact zW
     | true=>
      have n1:=k1.1 rfl
      have n2:=k2.1 rfl
      have n3:=k3.1 rfl
      refine cT (E:=E) (fn:=Tryz.f18) (g:=.pure _) fun _=>?_
      exact zW
 .rw [if_neg q0] at hr
  obtain ⟨b1,e1⟩:∃ b,(((nav s.c.ns).length:Int)==0)=b:=⟨_,rfl⟩
  obtain ⟨b2,e2⟩:∃ b,(((hav s.c.hs).length:Int)==0)=b:=⟨_,rfl⟩
  obtain ⟨b3,e3⟩:∃ b,(s.c.half==0)=b:=⟨_,rfl⟩
  obtain ⟨b4,e4⟩:∃ b,(s.c.age==0)=b:=⟨_,rfl⟩
  have hne:¬ (b1=true/\b2=true/\b3=true/\b4=true):=fun ⟨z1,z2,z3,z4⟩=>q0 (by
   rw [z1,beq_iff_eq] at e1
   rw [z2,beq_iff_eq] at e2
   rw [z3,beq_iff_eq] at e3
   rw [z4,beq_iff_eq] at e4
   unfold iR
   rw [decide_eq_true (Br.1 (show s.c.ns.length=0 by omega)),decide_eq_true (Br.1 (show s.c.hs.length=0 by omega)),decide_eq_true e3,decide_eq_true e4]
   rfl)
  by_cases q1:s.nxt<1\/1099511627776<s.nxt\/32<s.pend.length+s.run.length
  .rw [if_pos q1] at hr
   subst hr
   cases b1 with
   | false=>
    refine cT (E:=E) (fn:=Tryz.f18) (g:=.pure _) fun _=>?_
    exact zW
   | true=>
    cases b2 with
    | false=>
     refine cT (E:=E) (fn:=Tryz.f18) (g:=.pure _) fun _=>?_
     exact zW
    | true=>
     cases b3 with
     | false=>
      refine cT (E:=E) (fn:=Tryz.f18) (g:=.pure _) fun _=>?_
      exact zW
     | true=>
      cases b4 with
      | false=>
       refine cT (E:=E) (fn:=Tryz.f18) (g:=.pure _) fun _=>?_
       exact zW
      | true=>exact absurd ⟨rfl,rfl,rfl,rfl⟩ hne
  .rw [if_neg q1] at hr
   have next:=aEh s hc hs (by omega) r s.pend.length 0 (by omega) (by rw [Bt];exact hr)
   cases b1 with
   | false=>
    refine cT (E:=E) (fn:=Tryz.f18) (g:=.pure _) fun _=>?_
    exact zW
   | true=>
    cases b2 with
    | false=>
     refine cT (E:=E) (fn:=Tryz.f18) (g:=.pure _) fun _=>?_
     exact zW
    | true=>
     cases b3 with
     | false=>
      refine cT (E:=E) (fn:=Tryz.f18) (g:=.pure _) fun _=>?_
      exact zW
     | true=>
      cases b4 with
      | false=>
       refine cT (E:=E) (fn:=Tryz.f18) (g:=.pure _) fun _=>?_
       exact zW
      | true=>exact absurd ⟨rfl,rfl,rfl,rfl⟩ hne
theorem qO (x:Cmd) (b:Bool) (hb:decide (x.c.ns.length+x.c.hs.length<=500)=b) (hc:x.c.sm):aA Tryz.prog 28 [x.av] [] (.ret (.bool b)) []:=by
 have l3:(nav x.c.ns).length=x.c.ns.length:=by simp
 have l4:(hav x.c.hs).length=x.c.hs.length:=by simp
 have h1:=hc.ns
 have h2:=hc.hs
 refine cT (E:=E) (fn:=Tryz.f28) (g:=.pure _) fun _=>?_
 repeat' first | (refine gN hE ?_;conv=>whnf) | exact rfl | refine aY ?_ | refine aN ?_ | refine aT fun h=>?_ | refine aF fun h=>?_ | refine ⟨fun h=>?_,fun h=>?_⟩ | refine aJ ?_ | refine ⟨_,rfl,?_⟩ | refine aD ?_ | fail
 rw [<-hb]
 exact congrArg (fun x=>Res.ret (AVal.bool x)) (decide_eq_decide.2 (by omega))
def Ev.eqb (x y:Ev):Bool:=(x.k==y.k)&&((x.id==y.id)&&((x.n==y.n)&&true))
def Pn.eqb (x y:Pn):Bool:=(x.g.id==y.g.id)&&((x.g.ten==y.g.ten)&&((x.g.pods==y.g.pods)&&((x.g.need.a==y.g.need.a)&&((x.g.need.b==y.g.need.b)&&((x.g.need.c==y.g.need.c)&&((x.g.run==y.g.run)&&((x.g.lev==y.g.lev)&&((x.g.pref==y.g.pref)&&((x.seq==y.seq)&&((x.at'==y.at')&&true))))))))))
theorem Pn.eqb_eq {x y:Pn}:x.eqb y=true↔x=y:=by
 obtain ⟨⟨_,_,_,⟨_,_,_⟩,_,_,_⟩,_,_⟩:=x
 obtain ⟨⟨_,_,_,⟨_,_,_⟩,_,_,_⟩,_,_⟩:=y
 simp [Pn.eqb,and_assoc]
theorem qZ {α:Type} [DecidableEq α] {f:α->α->Bool} (hf:∀ x y,f x y=true↔x=y):∀ (a b:List α),C8.eqL f a b=decide (a=b)
 | [],[]=>rfl
 | [],_::_=>rfl
 | _::_,[]=>rfl
 | x::r,y::s=>by
  show (f x y&&C8.eqL f r s)=_
  rw [qZ hf r s]
  cases h:f x y with
  | true=>
   have:=(hf x y).1 h
   subst this
   simp
  | false=>
   have:x≠y:=fun e=>by rw [(hf x y).2 e] at h;cases h
   simp [this]
theorem aAR (a b:List Pn) (hab:a.length=b.length) (hl:((pnv a).length:Int)<=9223372036854775807) (r:Bool):∀ (n i:Nat),i+n=a.length->C8.eqL Pn.eqb (a.drop i) (b.drop i)=r->
  To E Tryz.f90 (.pure (.ret (.bool r))) (.head (stk Tryz.f90 0) [(0,.slice 11 (pnv a) .no),(1,.slice 11 (pnv b) .no),(12,.int .i64 ((pnv a).length:Nat)),(13,.int .i64 i)] []):=by
 have hlen:(pnv a).length=a.length:=by simp
 intro n
 induction n with
 | zero=>
  intro i hi hr
  rw [Ae (by omega),Ae (by omega)] at hr
  subst hr
  refine gV ?_
  exact zW
 | succ n ih=>
  intro i hi hr
  have h1:i<a.length:=by omega
  have h2:i<b.length:=by omega
  rw [Ad h1,Ad h2] at hr
  have hr:(Pn.eqb a[i] b[i]&&C8.eqL Pn.eqb (a.drop (i+1)) (b.drop (i+1)))=r:=hr
  generalize hx:a[i]=x at hr
  generalize hy:b[i]=y at hr
  have ga:(pnv a)[i]? =some (Pn.av x):=by simp [hx,h1]
  have gb:(pnv b)[i]? =some (Pn.av y):=by simp [hy,h2]
  refine gV ?_
  refine aT fun h=>?_
  repeat' first | (refine gN hE ?_;conv=>whnf) | refine ⟨_,ga,?_⟩ | refine ⟨_,gb,?_⟩ | exact rfl | refine aY ?_ | refine aN ?_ | refine aT fun h=>?_ | refine aF fun h=>?_ | refine ⟨fun h=>?_,fun h=>?_⟩ | refine aJ ?_ | refine ⟨_,rfl,?_⟩ | refine aD ?_ | fail
  .rename_i h
   have h:Pn.eqb x y=false:=oL h
   rw [h] at hr
   rw [<-hr];rfl
  .rename_i h
   have h:Pn.eqb x y=true:=oM h
   rw [h,Cb] at hr
   have z1_1:=ih (i+1) (by omega) hr
   exact zW
theorem aHu (a b:List Pn):aA Tryz.prog 90 [.slice 11 (pnv a) .no,.slice 11 (pnv b) .no] [] (.ret (.bool (C8.eqL Pn.eqb a b))) []:=by
 have hla:(pnv a).length=a.length:=by simp
 have hlb:(pnv b).length=b.length:=by simp
 refine cT (E:=E) (fn:=Tryz.f90) (g:=.pure _) fun ho=>?_
 have hl:((pnv a).length:Int)<=9223372036854775807:=ho.1
 refine gV ?_
 refine ⟨fun h=>?_,fun h=>?_⟩
 .have h:(((pnv a).length:Int) !=((pnv b).length:Int))=true:=h
  rw [C8.eqL_len (by intro e;rw [hla,hlb,e] at h;simp at h)]
  refine gW (by first | exact hE | exact hEr _ _ | exact hEo _ _) ?_;conv=>whnf
 .have h:(((pnv a).length:Int) !=((pnv b).length:Int))=false:=h
  have z3_1:=aAR a b (by simp at h;omega) hl _ a.length 0 (by omega) rfl
  exact zW
theorem aAV (a b:List Nat) (hab:a.length=b.length) (hl:((fv a).length:Int)<=9223372036854775807) (r:Bool):∀ (n i:Nat),i+n=a.length->C8.eqL (fun x y:Nat=>((x:Int)==(y:Int))) (a.drop i) (b.drop i)=r->
  To E Tryz.f91 (.pure (.ret (.bool r))) (.head (stk Tryz.f91 0) [(0,.slice 1 (fv a) .no),(1,.slice 1 (fv b) .no),(12,.int .i64 ((fv a).length:Nat)),(13,.int .i64 i)] []):=by
 have hlen:(fv a).length=a.length:=by simp
 intro n
 induction n with
 | zero=>
  intro i hi hr
  rw [Ae (by omega),Ae (by omega)] at hr
  subst hr
  refine gV ?_
  exact zW
 | succ n ih=>
  intro i hi hr
  have h1:i<a.length:=by omega
  have h2:i<b.length:=by omega
  rw [Ad h1,Ad h2] at hr
  have hr:((fun x y:Nat=>((x:Int)==(y:Int))) a[i] b[i]&&C8.eqL (fun x y:Nat=>((x:Int)==(y:Int))) (a.drop (i+1)) (b.drop (i+1)))=r:=hr
  generalize hx:a[i]=x at hr
  generalize hy:b[i]=y at hr
  have ga:(fv a)[i]? =some (uu x):=by simp [hx,h1]
  have gb:(fv b)[i]? =some (uu y):=by simp [hy,h2]
  refine gV ?_
  refine aT fun h=>?_
  repeat' first | (refine gN hE ?_;conv=>whnf) | refine ⟨_,ga,?_⟩ | refine ⟨_,gb,?_⟩ | exact rfl | refine aY ?_ | refine aN ?_ | refine aT fun h=>?_ | refine aF fun h=>?_ | refine ⟨fun h=>?_,fun h=>?_⟩ | refine aJ ?_ | refine ⟨_,rfl,?_⟩ | refine aD ?_ | fail
  .rename_i h
   have h:(fun x y:Nat=>((x:Int)==(y:Int))) x y=false:=oL h
   rw [h] at hr
   rw [<-hr];rfl
  .rename_i h
   have h:(fun x y:Nat=>((x:Int)==(y:Int))) x y=true:=oM h
   rw [h,Cb] at hr
   have z5_1:=ih (i+1) (by omega) hr
   exact zW
theorem aHw (a b:List Nat):aA Tryz.prog 91 [.slice 1 (fv a) .no,.slice 1 (fv b) .no] [] (.ret (.bool (C8.eqL (fun x y:Nat=>((x:Int)==(y:Int))) a b))) []:=by
 have hla:(fv a).length=a.length:=by simp
 have hlb:(fv b).length=b.length:=by simp
 refine cT (E:=E) (fn:=Tryz.f91) (g:=.pure _) fun ho=>?_
 have hl:((fv a).length:Int)<=9223372036854775807:=ho.1
 refine gV ?_
 refine ⟨fun h=>?_,fun h=>?_⟩
 .have h:(((fv a).length:Int) !=((fv b).length:Int))=true:=h
  rw [C8.eqL_len (by intro e;rw [hla,hlb,e] at h;simp at h)]
  refine gW (by first | exact hE | exact hEr _ _ | exact hEo _ _) ?_;conv=>whnf
 .have h:(((fv a).length:Int) !=((fv b).length:Int))=false:=h
  have z7_1:=aAV a b (by simp at h;omega) hl _ a.length 0 (by omega) rfl
  exact zW
theorem aAT (a b:List Int) (hab:a.length=b.length) (hl:((iv a).length:Int)<=9223372036854775807) (r:Bool):∀ (n i:Nat),i+n=a.length->C8.eqL (fun x y:Int=>(x==y)) (a.drop i) (b.drop i)=r->
  To E Tryz.f89 (.pure (.ret (.bool r))) (.head (stk Tryz.f89 0) [(0,.slice 1 (iv a) .no),(1,.slice 1 (iv b) .no),(12,.int .i64 ((iv a).length:Nat)),(13,.int .i64 i)] []):=by
 have hlen:(iv a).length=a.length:=by simp
 intro n
 induction n with
 | zero=>
  intro i hi hr
  rw [Ae (by omega),Ae (by omega)] at hr
  subst hr
  refine gV ?_
  exact zW
 | succ n ih=>
  intro i hi hr
  have h1:i<a.length:=by omega
  have h2:i<b.length:=by omega
  rw [Ad h1,Ad h2] at hr
  have hr:((fun x y:Int=>(x==y)) a[i] b[i]&&C8.eqL (fun x y:Int=>(x==y)) (a.drop (i+1)) (b.drop (i+1)))=r:=hr
  generalize hx:a[i]=x at hr
  generalize hy:b[i]=y at hr
  have ga:(iv a)[i]? =some (ii x):=by simp [hx,h1]
  have gb:(iv b)[i]? =some (ii y):=by simp [hy,h2]
  refine gV ?_
  refine aT fun h=>?_
  repeat' first | (refine gN hE ?_;conv=>whnf) | refine ⟨_,ga,?_⟩ | refine ⟨_,gb,?_⟩ | exact rfl | refine aY ?_ | refine aN ?_ | refine aT fun h=>?_ | refine aF fun h=>?_ | refine ⟨fun h=>?_,fun h=>?_⟩ | refine aJ ?_ | refine ⟨_,rfl,?_⟩ | refine aD ?_ | fail
  .rename_i h
   have h:(fun x y:Int=>(x==y)) x y=false:=oL h
   rw [h] at hr
   rw [<-hr];rfl
  .rename_i h
   have h:(fun x y:Int=>(x==y)) x y=true:=oM h
   rw [h,Cb] at hr
   have z9_1:=ih (i+1) (by omega) hr
   exact zW
theorem aHv (a b:List Int):aA Tryz.prog 89 [.slice 1 (iv a) .no,.slice 1 (iv b) .no] [] (.ret (.bool (C8.eqL (fun x y:Int=>(x==y)) a b))) []:=by
 have hla:(iv a).length=a.length:=by simp
 have hlb:(iv b).length=b.length:=by simp
 refine cT (E:=E) (fn:=Tryz.f89) (g:=.pure _) fun ho=>?_
 have hl:((iv a).length:Int)<=9223372036854775807:=ho.1
 refine gV ?_
 refine ⟨fun h=>?_,fun h=>?_⟩
 .have h:(((iv a).length:Int) !=((iv b).length:Int))=true:=h
  rw [C8.eqL_len (by intro e;rw [hla,hlb,e] at h;simp at h)]
  refine gW (by first | exact hE | exact hEr _ _ | exact hEo _ _) ?_;conv=>whnf
 .have h:(((iv a).length:Int) !=((iv b).length:Int))=false:=h
  have z11_1:=aAT a b (by simp at h;omega) hl _ a.length 0 (by omega) rfl
  exact zW
theorem aEl (a b:List Pn):aA Tryz.prog 90 [.slice 11 (pnv a) .no,.slice 11 (pnv b) .no] [] (.ret (.bool (decide (a=b)))) []:=by
 rw [<-qZ (fun _ _=>Pn.eqb_eq) a b]
 exact aHu a b
theorem aEn (a b:List Nat):aA Tryz.prog 91 [.slice 1 (fv a) .no,.slice 1 (fv b) .no] [] (.ret (.bool (decide (a=b)))) []:=by
 rw [<-qZ (f:=fun x y:Nat=>((x:Int)==(y:Int))) (fun x y=>by simp;omega) a b]
 exact aHw a b
theorem aEm (a b:List Int):aA Tryz.prog 89 [.slice 1 (iv a) .no,.slice 1 (iv b) .no] [] (.ret (.bool (decide (a=b)))) []:=by
 rw [<-qZ (f:=fun x y:Int=>(x==y)) (fun x y=>by simp) a b]
 exact aHv a b
noncomputable abbrev aIM:Func:=Tryz.f92
theorem ZD (x y:Rn) (hxy:x.hs.length=y.hs.length) (hx:x.hs.length<=1048576) (r:Bool):∀ (m i:Nat),i+m=x.hs.length->decide (x.hs.drop i=y.hs.drop i)=r->
  To E aIM (.pure (.ret (.bool r))) (.head (stk aIM 0) [(2,.ref 0 0),(3,.ref 1 0),(5,.int .i64 i)] [.cells 53 x.cs,.cells 53 y.cs]):=by
 have hlen:(iv x.hs).length=x.hs.length:=by simp
 intro m
 induction m with
 | zero=>
  intro i hi hr
  rw [Ae (by omega),Ae (by omega)] at hr
  have hr:true=r:=hr
  subst hr
  refine gV ?_
  exact zW
 | succ m ih=>
  intro i hi hr
  have hlt:i<x.hs.length:=by omega
  have hlt2:i<y.hs.length:=by omega
  rw [Ad hlt,Ad hlt2] at hr
  have gx:=dO hlt
  have gy:=dO hlt2
  generalize x.hs[i]=u at gx hr
  generalize y.hs[i]=v at gy hr
  have next:=ih (i+1) (by omega)
  by_cases h1:u=v
  .have e1:(u !=v)=false:=by simpa using h1
   have next:=next (by rw [<-hr,h1];exact decide_eq_decide.2 ⟨fun e=>by rw [e],fun e=>(Em e).2⟩)
   clear ih hr
   refine gV ?_
   exact zW
  .have e1:(u !=v)=true:=by simpa using h1
   have hr:false=r:=by rw [<-hr,decide_eq_false fun e=>h1 (Em e).1]
   subst hr
   clear ih next
   refine gV ?_
   exact zW
theorem aGL (x y:Rn) (hx:x.hs.length<=1048576):aA Tryz.prog 92 [x.av,y.av] [] (.ret (.bool (decide (x=y)))) []:=by
 have lx:(iv x.hs).length=x.hs.length:=by simp
 have ly:(iv y.hs).length=y.hs.length:=by simp
 have f0:(false !=false)=false:=rfl
 by_cases h1:x.g=y.g
 .have f1:(!(Gan.eqb x.g y.g))=false:=by rw [Gan.eqb_eq.2 h1];rfl
  by_cases h2:x.seq=y.seq
  .have f2:(x.seq !=y.seq)=false:=by simpa using h2
   by_cases h3:x.at'=y.at'
   .have f3:(x.at' !=y.at')=false:=by simpa using h3
    by_cases h4:x.st=y.st
    .have f4:(x.st !=y.st)=false:=by simpa using h4
     by_cases h5:x.fl=y.fl
     .have f5:(x.fl !=y.fl)=false:=by simpa using h5
      by_cases h6:x.hs.length=y.hs.length
      .have f6:(((iv x.hs).length:Int) !=((iv y.hs).length:Int))=false:=by rw [lx,ly,h6];simp
       have e1:=f6
       have hd:decide (x.hs.drop 0=y.hs.drop 0)=decide (x=y):=by
              rw [Bt,Bt]
              obtain ⟨a1,a2,a3,a4,a5,a6⟩:=x
              obtain ⟨b1,b2,b3,b4,b5,b6⟩:=y
              dsimp only at h1 h2 h3 h4 h5
              subst h1 h2 h3 h4 h5
              simp
       have next:=ZD x y h6 hx _ x.hs.length 0 (by omega) hd
       generalize decide (x=y)=r at *
       refine cT (E:=E) (fn:=Tryz.f92) (g:=.pure _) fun _=>?_
       exact zW
      .have e1:(((iv x.hs).length:Int) !=((iv y.hs).length:Int))=true:=by rw [lx,ly];simp;omega
       have f6:=f0
       rw [decide_eq_false fun e=>h6 (by rw [e])]
       refine cT (E:=E) (fn:=Tryz.f92) (g:=.pure _) fun _=>?_
       exact zW
     .have e1:(x.fl !=y.fl)=true:=by simpa using h5
      have f5:=f0
      have f6:=f0
      rw [decide_eq_false fun e=>h5 (by rw [e])]
      refine cT (E:=E) (fn:=Tryz.f92) (g:=.pure _) fun _=>?_
      exact zW
    .have e1:(x.st !=y.st)=true:=by simpa using h4
     have f4:=f0
     have f5:=f0
     have f6:=f0
     rw [decide_eq_false fun e=>h4 (by rw [e])]
     refine cT (E:=E) (fn:=Tryz.f92) (g:=.pure _) fun _=>?_
     exact zW
   .have e1:(x.at' !=y.at')=true:=by simpa using h3
    have f3:=f0
    have f4:=f0
    have f5:=f0
    have f6:=f0
    rw [decide_eq_false fun e=>h3 (by rw [e])]
    refine cT (E:=E) (fn:=Tryz.f92) (g:=.pure _) fun _=>?_
    exact zW
  .have e1:(x.seq !=y.seq)=true:=by simpa using h2
   have f2:=f0
   have f3:=f0
   have f4:=f0
   have f5:=f0
   have f6:=f0
   rw [decide_eq_false fun e=>h2 (by rw [e])]
   refine cT (E:=E) (fn:=Tryz.f92) (g:=.pure _) fun _=>?_
   exact zW
 .have e1:(!(Gan.eqb x.g y.g))=true:=by
   cases h:Gan.eqb x.g y.g with
   | false=>rfl
   | true=>exact absurd (Gan.eqb_eq.1 h) h1
  have f1:=f0
  have f2:=f0
  have f3:=f0
  have f4:=f0
  have f5:=f0
  have f6:=f0
  rw [decide_eq_false fun e=>h1 (by rw [e])]
  refine cT (E:=E) (fn:=Tryz.f92) (g:=.pure _) fun _=>?_
  exact zW
noncomputable abbrev aIF:Func:=Tryz.f38
theorem XL (a b:List Rn) (hab:a.length=b.length) (hs:Sm a) (r:Bool):∀ (m i:Nat),i+m=a.length->decide (a.drop i=b.drop i)=r->
  To E aIF (.pure (.ret (.bool r))) (.head (stk aIF 0) [(0,.slice 14 (rav a) .no),(1,.slice 14 (rav b) .no),(5,.int .i64 i)] []):=by
 have hlen:(rav a).length=a.length:=by simp
 have hl:=hs.1
 intro m
 induction m with
 | zero=>
  intro i hi hr
  rw [Ae (by omega),Ae (by omega)] at hr
  have hr:true=r:=hr
  subst hr
  refine gV ?_
  exact zW
 | succ m ih=>
  intro i hi hr
  have hlt:i<a.length:=by omega
  have hlt2:i<b.length:=by omega
  rw [Ad hlt,Ad hlt2] at hr
  have gx:=bN hlt
  have gy:=bN hlt2
  have ho:=aGL a[i] b[i] (hs.at hlt)
  generalize a[i]=u at gx hr ho
  generalize b[i]=v at gy hr ho
  have next:=ih (i+1) (by omega)
  by_cases h1:u=v
  .rw [decide_eq_true h1] at ho
   have next:=next (by rw [<-hr,h1];exact decide_eq_decide.2 ⟨fun e=>by rw [e],fun e=>(Em e).2⟩)
   clear ih hr
   refine gV ?_
   exact zW
  .rw [decide_eq_false h1] at ho
   have hr:false=r:=by rw [<-hr,decide_eq_false fun e=>h1 (Em e).1]
   subst hr
   clear ih next
   refine gV ?_
   exact zW
theorem M9 (a b:List Rn) (hs:Sm a):aA Tryz.prog 38 [.slice 14 (rav a) .no,.slice 14 (rav b) .no] [] (.ret (.bool (decide (a=b)))) []:=by
 have la:(rav a).length=a.length:=by simp
 have lb:(rav b).length=b.length:=by simp
 by_cases h1:a.length=b.length
 .have e1:(((rav a).length:Int) !=((rav b).length:Int))=false:=by rw [la,lb,h1];simp
  have next:=XL a b h1 hs _ a.length 0 (by omega) (show _=decide (a=b) by rw [Bt,Bt])
  generalize decide (a=b)=r at *
  refine cT (E:=E) (fn:=Tryz.f38) (g:=.pure _) fun _=>?_
  exact zW
 .have e1:(((rav a).length:Int) !=((rav b).length:Int))=true:=by rw [la,lb];simp;omega
  rw [decide_eq_false fun e=>h1 (by rw [e])]
  refine cT (E:=E) (fn:=Tryz.f38) (g:=.pure _) fun _=>?_
  exact zW
noncomputable abbrev aIQ:Func:=Tryz.f79
theorem Z5 (a b:List Nat) (hab:a.length=b.length) (hl:a.length<=1048576) (r:Bool):∀ (m i:Nat),i+m=a.length->decide (a.drop i=b.drop i)=r->
  To E aIQ (.pure (.ret (.bool r))) (.head (stk aIQ 0) [(0,.slice 1 (fv a) .no),(1,.slice 1 (fv b) .no),(5,.int .i64 i)] []):=by
 have hlen:(fv a).length=a.length:=by simp
 intro m
 induction m with
 | zero=>
  intro i hi hr
  rw [Ae (by omega),Ae (by omega)] at hr
  have hr:true=r:=hr
  subst hr
  refine gV ?_
  exact zW
 | succ m ih=>
  intro i hi hr
  have hlt:i<a.length:=by omega
  have hlt2:i<b.length:=by omega
  rw [Ad hlt,Ad hlt2] at hr
  have gx:(fv a)[i]? =some (uu a[i]):=by simp [hlt]
  have gy:(fv b)[i]? =some (uu b[i]):=by simp [hlt2]
  generalize a[i]=u at gx hr
  generalize b[i]=v at gy hr
  have next:=ih (i+1) (by omega)
  by_cases h1:u=v
  .have e1:((u:Int) !=(v:Int))=false:=by simp [h1]
   have next:=next (by rw [<-hr,h1];exact decide_eq_decide.2 ⟨fun e=>by rw [e],fun e=>(Em e).2⟩)
   clear ih hr
   refine gV ?_
   exact zW
  .have e1:((u:Int) !=(v:Int))=true:=by simp;omega
   have hr:false=r:=by rw [<-hr,decide_eq_false fun e=>h1 (Em e).1]
   subst hr
   clear ih next
   refine gV ?_
   exact zW
theorem aGW (a b:List Nat) (hl:a.length<=1048576):aA Tryz.prog 79 [.slice 1 (fv a) .no,.slice 1 (fv b) .no] [] (.ret (.bool (decide (a=b)))) []:=by
 have la:(fv a).length=a.length:=by simp
 have lb:(fv b).length=b.length:=by simp
 by_cases h1:a.length=b.length
 .have e1:(((fv a).length:Int) !=((fv b).length:Int))=false:=by rw [la,lb,h1];simp
  have next:=Z5 a b h1 hl _ a.length 0 (by omega) (show _=decide (a=b) by rw [Bt,Bt])
  generalize decide (a=b)=r at *
  refine cT (E:=E) (fn:=Tryz.f79) (g:=.pure _) fun _=>?_
  exact zW
 .have e1:(((fv a).length:Int) !=((fv b).length:Int))=true:=by rw [la,lb];simp;omega
  rw [decide_eq_false fun e=>h1 (by rw [e])]
  refine cT (E:=E) (fn:=Tryz.f79) (g:=.pure _) fun _=>?_
  exact zW
def AE (a b:Sta):Bool:=(a.now==b.now)&&((a.nxt==b.nxt)&&(C8.sameC a.c b.c&&(decide (a.pend=b.pend)&&(decide (a.run=b.run)&&decide (a.hist=b.hist)))))
theorem aFi:∀ {a b:List Pn},a.map Pn.q=b.map Pn.q->a=b
 | [],[],_=>rfl
 | [],_::_,h=>by cases h
 | _::_,[],h=>by cases h
 | x::a,y::b,h=>by
  obtain ⟨h1,h2⟩:=Em h
  rw [aFi h2]
  obtain ⟨⟨_,_,_,⟨_,_,_⟩,_,_,_⟩,_,_⟩:=x
  obtain ⟨⟨_,_,_,⟨_,_,_⟩,_,_,_⟩,_,_⟩:=y
  simp only [Pn.q,Q2.Pend.mk.injEq] at h1
  obtain ⟨rfl,rfl,rfl,rfl,rfl,rfl,rfl,rfl,rfl,rfl,rfl⟩:=h1
  rfl
theorem EA (a b:Sta) (hs:Sm a.run) (hh:a.hist.length<=1048576) (r:Bool) (hr:AE a b=r):aA Tryz.prog 31 [a.av,b.av] [] (.ret (.bool r)) []:=by
 have h1:=C8.rsame_c a.c b.c
 have h2:=Q2.same_ok (a.pend.map Pn.q) (b.pend.map Pn.q)
 rw [show decide (a.pend.map Pn.q=b.pend.map Pn.q)=decide (a.pend=b.pend) from decide_eq_decide.2 ⟨aFi,fun e=>by rw [e]⟩,rT,rT] at h2
 have h3:=M9 a.run b.run hs
 have h4:=aGW a.hist b.hist hh
 unfold AE at hr
 generalize C8.sameC a.c b.c=q1 at *
 generalize decide (a.pend=b.pend)=q2 at *
 generalize decide (a.run=b.run)=q3 at *
 generalize decide (a.hist=b.hist)=q4 at *
 have f0:(true&&false)=false:=rfl
 have e0:(true&&true)=true:=rfl
 cases e1:(a.now==b.now) with
 | false=>
  rw [e1] at hr
  have hr:false=r:=hr
  subst hr
  have f1:=e1
  have e1:=e0
  have e2:=e0
  refine cT (E:=E) (fn:=Tryz.f31) (g:=.pure _) fun _=>?_
  exact zW
 | true=>
  rw [e1] at hr
  cases e2:(a.nxt==b.nxt) with
  | false=>
   rw [e2] at hr
   have hr:false=r:=hr
   subst hr
   have f1:=e2
   have e2:=e0
   refine cT (E:=E) (fn:=Tryz.f31) (g:=.pure _) fun _=>?_
   exact zW
  | true=>
   rw [e2] at hr
   have f1:=f0
   cases q1 with
   | false=>
    have hr:false=r:=hr
    subst hr
    refine cT (E:=E) (fn:=Tryz.f31) (g:=.pure _) fun _=>?_
    exact zW
   | true=>
    cases q2 with
    | false=>
     have hr:false=r:=hr
     subst hr
     refine cT (E:=E) (fn:=Tryz.f31) (g:=.pure _) fun _=>?_
     exact zW
    | true=>
     cases q3 with
     | false=>
      have hr:false=r:=hr
      subst hr
      refine cT (E:=E) (fn:=Tryz.f31) (g:=.pure _) fun _=>?_
      exact zW
     | true=>
      have hr:q4=r:=hr
      subst hr
      refine cT (E:=E) (fn:=Tryz.f31) (g:=.pure _) fun _=>?_
      exact zW
theorem D9 {c d:Con}:C8.sameC c d=true↔c=d:=by
 obtain ⟨a1,a2,a3,a4⟩:=c
 obtain ⟨b1,b2,b3,b4⟩:=d
 unfold C8.sameC
 rw [qZ (f:=Nod.eqb) (fun _ _=>Nod.eqb_eq),qZ (f:=Hos.eqb) (fun _ _=>Hos.eqb_eq)]
 simp
theorem M7 (a:Sta):AE a a=true:=by
 unfold AE
 rw [D9.2 rfl]
 simp
theorem aGf (x y:Rn):aA Tryz.prog 88 [x.av,y.av] [] (.ret (.bool (decide (x=y)))) []:=by
 have hi:=aEm x.hs y.hs
 have f0:(true&&true)=true:=rfl
 have e0:(true&&false)=false:=rfl
 by_cases h1:x.g=y.g
 .have f1:Gan.eqb x.g y.g=true:=Gan.eqb_eq.2 h1
  by_cases h2:x.seq=y.seq
  .have f2:(x.seq==y.seq)=true:=by simpa using h2
   by_cases h3:x.at'=y.at'
   .have f3:(x.at'==y.at')=true:=by simpa using h3
    by_cases h4:x.st=y.st
    .have f4:(x.st==y.st)=true:=by simpa using h4
     by_cases h5:x.fl=y.fl
     .have f5:(x.fl==y.fl)=true:=by simpa using h5
      have e1:=e0
      have hd:decide (x.hs=y.hs)=decide (x=y):=by
       obtain ⟨a1,a2,a3,a4,a5,a6⟩:=x
       obtain ⟨b1,b2,b3,b4,b5,b6⟩:=y
       dsimp only at h1 h2 h3 h4 h5
       subst h1 h2 h3 h4 h5
       simp
      rw [hd] at hi
      generalize decide (x=y)=r at *
      refine cT (E:=E) (fn:=Tryz.f88) (g:=.pure _) fun _=>?_
      exact zW
     .have e1:(x.fl==y.fl)=false:=by simpa using h5
      have f5:=f0
      rw [decide_eq_false fun e=>h5 (by rw [e])]
      refine cT (E:=E) (fn:=Tryz.f88) (g:=.pure _) fun _=>?_
      exact zW
    .have e1:(x.st==y.st)=false:=by simpa using h4
     have f4:=f0
     have f5:=f0
     rw [decide_eq_false fun e=>h4 (by rw [e])]
     refine cT (E:=E) (fn:=Tryz.f88) (g:=.pure _) fun _=>?_
     exact zW
   .have e1:(x.at'==y.at')=false:=by simpa using h3
    have f3:=f0
    have f4:=f0
    have f5:=f0
    rw [decide_eq_false fun e=>h3 (by rw [e])]
    refine cT (E:=E) (fn:=Tryz.f88) (g:=.pure _) fun _=>?_
    exact zW
  .have e1:(x.seq==y.seq)=false:=by simpa using h2
   have f2:=f0
   have f3:=f0
   have f4:=f0
   have f5:=f0
   rw [decide_eq_false fun e=>h2 (by rw [e])]
   refine cT (E:=E) (fn:=Tryz.f88) (g:=.pure _) fun _=>?_
   exact zW
 .have e1:Gan.eqb x.g y.g=false:=by
   cases h:Gan.eqb x.g y.g with
   | false=>rfl
   | true=>exact absurd (Gan.eqb_eq.1 h) h1
  have f1:=f0
  have f2:=f0
  have f3:=f0
  have f4:=f0
  have f5:=f0
  rw [decide_eq_false fun e=>h1 (by rw [e])]
  refine cT (E:=E) (fn:=Tryz.f88) (g:=.pure _) fun _=>?_
  exact zW
noncomputable abbrev aIS:Func:=Tryz.f87
def sdF:AVal:=.func (.func 88) [] []
theorem aAQ (a b:List Rn) (hab:a.length=b.length) (hl:a.length<=1048576) (K:Int) (hK:K=((rav a).length:Nat)) (r:Bool):∀ (m i:Nat),i+m=a.length->decide (a.drop i=b.drop i)=r->
  To E aIS (.pure (.ret (.bool r))) (.head (stk aIS 0) [(1,.slice 14 (rav b) .no),(2,sdF),(15,.slice 14 (rav a) .no),(16,.int .i64 K),(17,.int .i64 i)] []):=by
 have hlen:(rav a).length=a.length:=by simp
 have hlenb:(rav b).length=b.length:=by simp
 intro m
 induction m with
 | zero=>
  intro i hi hr
  rw [Ae (by omega),Ae (by omega)] at hr
  have hr:true=r:=hr
  subst hr
  refine gV ?_
  exact zW
 | succ m ih=>
  intro i hi hr
  have hlt:i<a.length:=by omega
  have hlt2:i<b.length:=by omega
  rw [Ad hlt,Ad hlt2] at hr
  have gx:=bN hlt
  have gy:=bN hlt2
  have ho:=aGf a[i] b[i]
  generalize a[i]=u at gx hr ho
  generalize b[i]=v at gy hr ho
  have next:=ih (i+1) (by omega)
  unfold sdF at next⊢
  by_cases h1:u=v
  .rw [decide_eq_true h1] at ho
   have next:=next (by rw [<-hr,h1];exact decide_eq_decide.2 ⟨fun e=>by rw [e],fun e=>(Em e).2⟩)
   clear ih hr
   refine gV ?_
   exact zW
  .rw [decide_eq_false h1] at ho
   have hr:false=r:=by rw [<-hr,decide_eq_false fun e=>h1 (Em e).1]
   subst hr
   clear ih next
   refine gV ?_
   exact zW
theorem aHt (a b:List Rn) (hl:a.length<=1048576):aA Tryz.prog 87 [.slice 14 (rav a) .no,.slice 14 (rav b) .no,sdF] [] (.ret (.bool (decide (a=b)))) []:=by
 have la:(rav a).length=a.length:=by simp
 have lb:(rav b).length=b.length:=by simp
 by_cases h1:a.length=b.length
 .have e1:(((rav a).length:Int) !=((rav b).length:Int))=false:=by rw [la,lb,h1];simp
  have next:=aAQ a b h1 hl _ rfl _ a.length 0 (by omega) (show _=decide (a=b) by rw [Bt,Bt])
  generalize decide (a=b)=r at *
  unfold sdF at next⊢
  refine cT (E:=E) (fn:=Tryz.f87) (g:=.pure _) fun _=>?_
  exact zW
 .have e1:(((rav a).length:Int) !=((rav b).length:Int))=true:=by rw [la,lb];simp;omega
  rw [decide_eq_false fun e=>h1 (by rw [e])]
  refine cT (E:=E) (fn:=Tryz.f87) (g:=.pure _) fun _=>?_
  exact zW
def VI (c d:Con):Bool:=C8.eqL Nod.eqb c.ns d.ns&&(C8.eqL Hos.eqb c.hs d.hs&&(c.half==d.half&&c.age==d.age))
theorem O2 (c d:Con) (R:Bool) (hR:VI c d=R):aA Tryz.prog 86 [c.av,d.av] [] (.ret (.bool R)) []:=by
 have h1:=C8.eqN_ok c.ns d.ns
 have h2:=C8.eqH_ok c.hs d.hs
 unfold VI at hR
 generalize C8.eqL Nod.eqb c.ns d.ns=q1 at h1 hR
 generalize C8.eqL Hos.eqb c.hs d.hs=q2 at h2 hR
 cases q1 with
 | false=>
  have hR:false=R:=hR
  subst hR
  refine cT (E:=E) (fn:=Tryz.f86) (g:=.pure _) fun _=>?_
  exact zW
 | true=>
  cases q2 with
  | false=>
   have hR:false=R:=hR
   subst hR
   refine cT (E:=E) (fn:=Tryz.f86) (g:=.pure _) fun _=>?_
   exact zW
  | true=>
   have hR:(c.half==d.half&&c.age==d.age)=R:=hR
   cases e1:c.half==d.half with
   | false=>
    rw [e1] at hR
    have hR:false=R:=hR
    subst hR
    refine cT (E:=E) (fn:=Tryz.f86) (g:=.pure _) fun _=>?_
    exact zW
   | true=>
    rw [e1] at hR
    have hR:(c.age==d.age)=R:=hR
    subst hR
    refine cT (E:=E) (fn:=Tryz.f86) (g:=.pure _) fun _=>?_
    exact zW
theorem aBi {c d:Con}:VI c d=true↔c=d:=D9
def M8 (a b:Sta):Bool:=VI a.c b.c&&((a.now==b.now)&&((a.nxt==b.nxt)&&(decide (a.run=b.run)&&(decide (a.pend=b.pend)&&decide (a.hist=b.hist)))))
theorem qM (a b:Sta) (hl:a.run.length<=1048576) (r:Bool) (hr:M8 a b=r):aA Tryz.prog 37 [a.av,b.av] [] (.ret (.bool r)) []:=by
 have h1:=O2 a.c b.c _ rfl
 have h2:=aEl a.pend b.pend
 have h3:=aHt a.run b.run hl
 have h4:=aEn a.hist b.hist
 unfold M8 at hr
 generalize VI a.c b.c=q1 at *
 generalize decide (a.pend=b.pend)=q2 at *
 generalize decide (a.run=b.run)=q3 at *
 generalize decide (a.hist=b.hist)=q4 at *
 have f0:(true&&true)=true:=rfl
 have e0:(true&&false)=false:=rfl
 cases q1 with
 | false=>
  have hr:false=r:=hr
  subst hr
  have f1:=f0
  have e1:=e0
  have e2:=e0
  unfold sdF at h3
  refine cT (E:=E) (fn:=Tryz.f37) (g:=.pure _) fun _=>?_
  exact zW
 | true=>
  have hr:((a.now==b.now)&&((a.nxt==b.nxt)&&(q3&&(q2&&q4))))=r:=hr
  cases d1:(a.now==b.now) with
  | false=>
   rw [d1] at hr
   have hr:false=r:=hr
   subst hr
   have f1:(a.now !=b.now)=true:=by unfold bne;rw [d1];rfl
   have e1:=e0
   have e2:=e0
   unfold sdF at h3
   refine cT (E:=E) (fn:=Tryz.f37) (g:=.pure _) fun _=>?_
   exact zW
  | true=>
   rw [d1] at hr
   have e1:(a.now !=b.now)=false:=by unfold bne;rw [d1];rfl
   cases d2:(a.nxt==b.nxt) with
   | false=>
    rw [d2] at hr
    have hr:false=r:=hr
    subst hr
    have f1:(a.nxt !=b.nxt)=true:=by unfold bne;rw [d2];rfl
    have e2:=e0
    unfold sdF at h3
    refine cT (E:=E) (fn:=Tryz.f37) (g:=.pure _) fun _=>?_
    exact zW
   | true=>
    rw [d2] at hr
    have e2:(a.nxt !=b.nxt)=false:=by unfold bne;rw [d2];rfl
    have f1:=f0
    cases q3 with
    | false=>
     have hr:false=r:=hr
     subst hr
     unfold sdF at h3
     refine cT (E:=E) (fn:=Tryz.f37) (g:=.pure _) fun _=>?_
     exact zW
    | true=>
     cases q2 with
     | false=>
      have hr:false=r:=hr
      subst hr
      unfold sdF at h3
      refine cT (E:=E) (fn:=Tryz.f37) (g:=.pure _) fun _=>?_
      exact zW
     | true=>
      have hr:q4=r:=hr
      subst hr
      unfold sdF at h3
      refine cT (E:=E) (fn:=Tryz.f37) (g:=.pure _) fun _=>?_
      exact zW
theorem I6 {a b:Sta}:M8 a b=true↔a=b:=by
 obtain ⟨a1,a2,a3,a4,a5,a6⟩:=a
 obtain ⟨b1,b2,b3,b4,b5,b6⟩:=b
 unfold M8
 simp only [Ag,aBi,beq_iff_eq,decide_eq_true_eq,Sta.mk.injEq]
 constructor
 .rintro ⟨r1,r2,r3,r4,r5,r6⟩
  exact ⟨r1,r2,r3,r5,r4,r6⟩
 .rintro ⟨r1,r2,r3,r5,r4,r6⟩
  exact ⟨r1,r2,r3,r4,r5,r6⟩
noncomputable abbrev R4:Func:=Tryz.f34
theorem aAt (s:Sta) (hc:s.c.sm) (U:List V3) (hU:U.length=s.c.ns.length) (hg:∀ i:Nat,i<U.length->(vav U)[i]? =some (atV U (i:Int)).av) (hq:∀ i:Nat,i<U.length->cN (atV U (i:Int)) (xE s.c (i:Int))=true):∀ (m i:Nat),i+m=U.length->
  To E R4 (.pure (.ret (ii 0))) (.head (stk R4 1) [(1,.ref 0 0),(5,.slice 3 (vav U) .no),(6,.int .i64 i)] [.cells 31 s.cs]):=by
 have hlen:(vav U).length=U.length:=by simp
 have h1:=hc.ns
 intro m
 induction m with
 | zero=>
  intro i hi
  refine gV ?_
  exact zW
 | succ m ih=>
  intro i hi
  have hlt:i<U.length:=by omega
  have next:=ih (i+1) (by omega)
  have get:=hg i hlt
  have hf:=hq i hlt
  have gn:=tP (c:=s.c) (n:=(i:Int)) ⟨by omega,by omega⟩
  have hn:=aCO s.c hc (i:Int)
  have hl:=pH s.c hc (i:Int)
  rw [GD] at hl
  unfold xE at hf
  generalize atV U (i:Int)=u at hf get
  generalize bX s.c.ns (i:Int)=y at hf gn
  generalize iJ s.c.ns (i:Int) (kT s.c.ns)=v at hf hn
  cases hb:aX s.c.ns (i:Int) with
  | true=>
   rw [hb,if_pos rfl] at hf
   rw [hb] at hl
   have ha:=GK v y.b
   have ho:=tJ u (eF v y.b)
   rw [hf] at ho
   refine gV ?_
   exact zW
  | false=>
   rw [hb,if_neg (by decide)] at hf
   rw [hb] at hl
   have ho:=tJ u v
   rw [hf] at ho
   refine gV ?_
   exact zW
theorem LA (s:Sta) (hc:s.c.sm) (hr:s.run.length<=1048576) (F:List V3) (hF:F.length<=1048576) (hz:∀ (j:Nat) (h:j<F.length),cN V3.zero F[j]=true) (hq:TZ s=true):∀ (m i:Nat),i+m=F.length->
  To E R4 (.pure (.ret (ii 0))) (.head (stk R4 0) [(1,.ref 0 0),(3,.slice 3 (vav F) .no),(4,.int .i64 i)] [.cells 31 s.cs]):=by
 have hlen:(vav F).length=F.length:=by simp
 intro m
 induction m with
 | zero=>
  intro i hi
  have ho:=aGo s.c hc s.run hr
  have hU:=ZC s.c s.run
  have next:=aAt s hc (ofL s.c s.run) hU (fun i hi=>by
   have:=aB2 (c:=s.c) (l:=s.run) (n:=(i:Int)) ⟨by omega,by omega⟩
   rw [Ck] at this
   exact this) (fun i hi=>by
   unfold TZ at hq
   exact Ch.1 hq i (Gv.2 (by omega))) (ofL s.c s.run).length 0 (by omega)
  generalize ofL s.c s.run=U at ho next
  refine gV ?_
  exact zW
 | succ m ih=>
  intro i hi
  have hlt:i<F.length:=by omega
  have get:=kD hlt
  have hf:=tJ V3.zero F[i]
  rw [hz i hlt] at hf
  generalize F[i]=x at get hf
  have next:=ih (i+1) (by omega)
  refine gV ?_
  exact zW
theorem aDZ (s:Sta) (hc:s.c.sm) (hs:Sm s.run) (hk:CR s=true) (hn:s.c.ns≠[]):aA Tryz.prog 34 [s.av] [] (.ret (ii 0)) []:=by
 have hf:=JD s.c hc s.run hs
 have hl:=BZ s.c s.run
 have hz:∀ (j:Nat) (h:j<(dQ s.c s.run).length),cN V3.zero (dQ s.c s.run)[j]=true:=fun j h=>by
  have:=N9 hk hn (j:=j) (by omega)
  rw [Aa h] at this
  exact this
 have h1:=hc.hs
 have next:=LA s hc hs.1 (dQ s.c s.run) (by omega) hz (HY hk).2.2.1 (dQ s.c s.run).length 0 (by omega)
 generalize dQ s.c s.run=F at hf next
 refine cT (E:=E) (fn:=Tryz.f34) (g:=.pure _) fun _=>?_
 exact zW
theorem aAu (s:Sta) (o:OkS s):aA Tryz.prog 34 [s.av] [] (.ret (ii 0)) []:=by
 have hk:=aER o
 have hs:Sm s.run:=⟨by have:=o.few;omega,fun x hx=>by
  have:=(o.run.plc x hx).1
  have:=(o.needs x hx).pods
  omega⟩
 by_cases hn:s.c.ns=[]
 .have he:iR s.c=true:=by
   refine o.head.resolve_right fun e=>?_
   have:=(qB e).1
   unfold vE at this
   rw [hn] at this
   simp at this
  have hr:s.run=[]:=by
   cases hq:s.run with
   | nil=>rfl
   | cons x l=>
    have:=(o.gang x.pn (Cu _ (Cm (by rw [hq];exact Ar ..)))).1
    exact absurd this (CB he _)
  obtain ⟨c,now,nxt,pend,run,hist⟩:=s
  dsimp only at he hr
  have he:=nK.1 he
  subst he hr
  have next:=LA ⟨⟨[],[],0,0⟩,now,nxt,pend,[],hist⟩ ⟨by simp,by simp⟩ (by simp) [] (by simp) (fun j h=>absurd h (Mi _)) (HY hk).2.2.1 0 0 rfl
  have hf:=JD ⟨[],[],0,0⟩ ⟨by simp,by simp⟩ [] ⟨by simp,fun x hx=>by cases hx⟩
  have e:dQ ⟨[],[],0,0⟩ []=[]:=rfl
  rw [e] at hf
  refine cT (E:=E) (fn:=Tryz.f34) (g:=.pure _) fun _=>?_
  exact zW
 .exact aDZ s o.base.c hs hk hn
def WJ:V3:=⟨4,4,4⟩
def aH5:Con:=⟨[⟨-1,1,WJ,V3.zero,V3.zero⟩],[⟨0,0,0,WJ⟩],1,0⟩
def aFM:Gan:=⟨1,0,1,WJ,3,0,0⟩
def jW (n:Int):Cmd:=⟨5,uN,Gan.zero,n⟩
def IG:List Cmd:=[⟨1,aH5,Gan.zero,0⟩,⟨2,uN,aFM,0⟩,⟨2,uN,aFM,0⟩,⟨6,uN,Gan.zero,0⟩,jW 2]
def wS:Sta:=⟨aH5,2,2,[],[⟨aFM,1,0,0,0,[0]⟩],[8589934592]⟩
def wX:Sta:=(eG wS 1).1
theorem aFd:xB IG AA []=(wS,[0,0,5,0,0]):=by decide+kernel
theorem aJd:aV wS (jW 1)=(wX,[⟨3,1,0⟩],0):=by decide+kernel
theorem aFL:wX.run=[]:=by decide+kernel
theorem wNe:M8 wX wS=false:=by decide+kernel
def OkL (s:Sta) (l:List Cmd):Prop:=OkT s/\s.nxt+(l.length:Int)<=1099511627776/\∀ x∈l,x.k=1->x.c.sm
theorem A6:∀ s x l,OkL s (x::l)->iO s x (aV s x)/\OkL (aV s x).1 l:=by
 intro s x l ⟨h1,h2,h3⟩
 rw [Bo] at h2
 obtain ⟨a1,a2,a3⟩:=h1.apply (by omega) x
 exact ⟨gQ s x (h1.ok.st h1.lt) (h3 x (Ar ..)),a1,by omega,fun y hy=>h3 y (Bj _ hy)⟩
theorem A5 {l:List Cmd} (h:l.length<=1000000) (hc:∀ x∈l,x.c.sm):OkL AA l:=⟨aCn,by show (1:Int)+_<=_;omega,fun x hx _=>hc x hx⟩
theorem wSm:∀ x∈IG,x.c.sm:=by
 intro x hx
 refine ⟨?_,?_⟩<;>(revert x;decide)
theorem WI:aA Tryz.prog 32 [.slice 15 (cmv IG) .no] [] (.ret (.tup [wS.av,.slice 1 (iv [0,0,5,0,0]) .no])) []:=by
 have h:=XE IG (by decide) OkL A6 (A5 (by decide) wSm)
 rw [aFd] at h
 exact h
theorem wOk:OkT wS:=by
 have key:∀ (l:List Cmd) (s:Sta) (es:List Int),OkL s l->OkT (xB l s es).1:=fun l=>by
  induction l with
  | nil=>intro s es h;exact h.1
  | cons x l ih=>intro s es h;exact ih _ _ (A6 s x l h).2
 have h:=key IG AA [] (A5 (by decide) wSm)
 rw [aFd] at h
 exact h
theorem aBZ:iO wS (jW 1) (wX,[⟨3,1,0⟩],0):=by
 have h:=gQ wS (jW 1) (wOk.ok.st wOk.lt) (fun h=>(by cases h))
 rw [aJd] at h
 exact h
theorem dH:aA Tryz.prog 29 [] [] (.ret (.bool true)) []:=by
 have h1:=WI
 have h2:aA Tryz.prog 30 [wS.av,(jW 1).av] [] (.ret (.tup [wX.av,.slice 3 (evv [⟨3,1,0⟩]) .no,ii 0])) []:=aBZ
 have h3:=F4
 have h4:=qM wX wX (by rw [aFL];decide) true (I6.2 rfl)
 have h5:=qM wX wS (by rw [aFL];decide) false wNe
 have hr:(((rav wX.run).length:Int)==0)=true:=by rw [aFL];rfl
 refine cT (E:=E) (fn:=Tryz.f29) (g:=.pure _) fun _=>?_
 repeat' first | (refine gN hE ?_;conv=>whnf) | refine .pure _ [] (aA.strip h1) ?_ | refine .pure _ [] h2 ?_ | refine .pure _ [] h3 ?_ | refine .pure _ [] h4 ?_ | refine .pure _ [] h5 ?_ | refine Ac (fun _=>?_) (fun h=>absurd (hr.symm.trans h) (by decide)) | exact rfl | refine aY ?_ | refine aN ?_ | refine aT fun h=>?_ | refine aF fun h=>?_ | refine ⟨fun h=>?_,fun h=>?_⟩ | refine aJ ?_ | refine ⟨_,rfl,?_⟩ | refine aD ?_ | fail
theorem PH (s:Sta) (x:Cmd):(aV s x).2.2≠0->(aV s x).1=s/\(aV s x).2.1=[]:=by
 unfold aV
 split
 .exact fun _=>⟨rfl,rfl⟩
 split
 .split
  .exact fun _=>⟨rfl,rfl⟩
  split
  .exact fun _=>⟨rfl,rfl⟩
  .exact fun h=>absurd rfl h
 split
 .exact fun h=>⟨IX s x.g h,rfl⟩
 split
 .exact D0 s x.n
 split
 .exact fun h=>absurd rfl h
 split
 .exact fun h=>absurd rfl h
 split
 .exact fun _=>⟨rfl,rfl⟩
 .exact fun h=>absurd rfl h
theorem NL (s:Sta) (x:Cmd) (hc:s.c.sm) (hs:Sm s.run) (hp:s.pend.length<=1048576) (hf:LtF s.hist) (hx:x.c.sm):aA Tryz.prog 9 [s.av,x.av] [] (.ret (.bool true)) []:=by
 have h0:=dH
 have h1:=sP s hc hs hp _ rfl
 by_cases q:nI s=0
 .rw [q] at h1
  refine cT (E:=E) (fn:=Tryz.f9) (g:=.pure _) fun _=>?_
  exact zW
 have e1:(nI s==0)=false:=beq_eq_false_iff_ne.2 q
 have hst:=(OC q).st hf
 generalize nI s=w at *
 cases hb:decide (x.c.ns.length+x.c.hs.length<=500) with
 | false=>
  have h2:=qO x _ hb hx
  refine cT (E:=E) (fn:=Tryz.f9) (g:=.pure _) fun _=>?_
  exact zW
 | true=>
  have h2:=qO x _ hb hx
  have ha:=gQ s x hst (fun _=>hx)
  have hh:=hst.run.ord.hl
  by_cases q2:(aV s x).2.2=0
  .have ee:((aV s x).2.2==0)=true:=beq_iff_eq.2 q2
   unfold iO at ha
   generalize aV s x=R at *
   obtain ⟨S,ev,e⟩:=R
   refine cT (E:=E) (fn:=Tryz.f9) (g:=.pure _) fun _=>?_
   exact zW
  .have ee:((aV s x).2.2==0)=false:=beq_eq_false_iff_ne.2 q2
   obtain ⟨a1,a2⟩:=PH s x q2
   have hsm:=EA s s hs hh true (M7 s)
   unfold iO at ha
   rw [a1,a2] at ha
   generalize (aV s x).2.2=e at *
   refine cT (E:=E) (fn:=Tryz.f9) (g:=.pure _) fun _=>?_
   exact zW
theorem aCA (a b:Sta):M8 a b=AE a b:=by
 have h:VI a.c b.c=C8.sameC a.c b.c:=rfl
 unfold M8 AE
 rw [h]
 cases C8.sameC a.c b.c<;>cases (a.now==b.now)<;>cases (a.nxt==b.nxt)<;>cases decide (a.run=b.run)<;>cases decide (a.pend=b.pend)<;>rfl
noncomputable abbrev fSS:Func:=Tryz.f11
theorem D3 (a b:Sta) (ha1:a.c.sm) (ha2:a.pend.length<=1048576) (ha3:Sm a.run) (ha4:a.hist.length<=1048576) (i:Nat) (hi:i<2) (cont:To E fSS (.pure (.ret (.bool true))) (.head (stk fSS 0) [(2,.ref 0 0),(3,.ref 1 0),(5,ii ((i:Int)+1))] [dU b,dU a])):
  To E fSS (.pure (.ret (.bool true))) (.head (stk fSS 0) [(2,.ref 0 0),(3,.ref 1 0),(5,ii i)] [dU a,dU b]):=by
 have l1:(pnv a.pend).length=a.pend.length:=by simp
 have l2:(fv a.hist).length=a.hist.length:=by simp
 have l3:(nav a.c.ns).length=a.c.ns.length:=by simp
 have l4:(hav a.c.hs).length=a.c.hs.length:=by simp
 have l5:(rav a.run).length=a.run.length:=by simp
 have h1:=ha1.ns
 have h2:=ha1.hs
 have h3:=ha3.1
 have h0:=dH
 refine gV ?_
 exact zW
theorem aCp (a b:Sta) (ha1:a.c.sm) (ha2:a.pend.length<=1048576) (ha3:Sm a.run) (ha4:a.hist.length<=1048576) (hb1:b.c.sm) (hb2:b.pend.length<=1048576) (hb3:Sm b.run) (hb4:b.hist.length<=1048576):aA Tryz.prog 11 [a.av,b.av] [] (.ret (.bool true)) []:=by
 have h0:=dH
 have h1:=qM a b ha3.1 _ rfl
 have h2:=EA a b ha3 ha4 _ rfl
 rw [aCA] at h1
 have h3:=qM a a ha3.1 true (I6.2 rfl)
 have fin:To E fSS (.pure (.ret (.bool true))) (.head (stk fSS 0) [(2,.ref 0 0),(3,.ref 1 0),(5,ii 2)] [dU a,dU b]):=by
  generalize AE a b=r at *
  have er:(r==r)=true:=by cases r<;>rfl
  refine gV ?_
  exact zW
 have next:=D3 a b ha1 ha2 ha3 ha4 0 (by omega) (D3 b a hb1 hb2 hb3 hb4 1 (by omega) fin)
 refine cT (E:=E) (fn:=Tryz.f11) (g:=.pure _) fun _=>?_
 exact zW
theorem aFC (k n:Int) (hk:k=3\/k=4\/k=5) (h1:0<=n) (h2:n<=1099511627776):C8.chk ⟨k,uN,Gan.zero,n⟩=0:=by
 have e1:DJ n=true:=by unfold DJ;simp;omega
 have e2:C8.chkC ⟨k,uN,Gan.zero,n⟩=0:=by
  show (if uN.tok=true then (if Gan.zero.ok=true then (if okI [n]=true then C8.chkL ⟨k,uN,Gan.zero,n⟩ else 1) else 1) else 1)=0
  rw [if_pos (by decide),if_pos (by decide),if_pos (by unfold okI okI;rw [e1];rfl)]
  rfl
 unfold C8.chk C8.chk2 C8.chk3 C8.chk4
 rw [e2]
 rcases hk with rfl | rfl | rfl<;>rfl
theorem sC (s:Sta) {n:Int} (h1:1<=n) (h2:n<=1048576) (h3:s.now+n<=1099511627776):aV s (jW n)=({s with hist:=tkL s.hist (oQ s.c s.run) n s.c.half,now:=s.now+n,run:=atL s.run (s.now+n)},jZ s.run (s.now+n),0):=by
 have hc:C8.chk (jW n)=0:=aFC 5 n (.inr (.inr rfl)) (by omega) (by omega)
 unfold aV
 rw [if_neg (by rw [hc];decide),if_neg (show ¬ (jW n).k=1 from (show ¬ (5:Int)=1 by decide)),if_neg (show ¬ (jW n).k=2 from (show ¬ (5:Int)=2 by decide)),if_pos (show (jW n).k=5 from rfl)]
 show eG s n=_
 unfold eG
 rw [if_neg (by omega),if_neg (by omega)]
theorem aHX (l:List Rn) {a b:Int} (h:a<=b):atL (atL l a) b=atL l b:=by
 unfold atL
 rw [Lc]
 refine Ll fun x _=>?_
 rw [Km]
 simp only [Ag,decide_eq_true_eq]
 omega
theorem LL:∀ (l:List Rn) {a b:Int},a<=b->(jZ l a).length+(jZ (atL l a) b).length=(jZ l b).length/\(atL l a).length+(jZ l a).length=l.length
 | [],_,_,_=>⟨rfl,rfl⟩
 | x::l,a,b,h=>by
  obtain ⟨h1,h2⟩:=LL l h
  by_cases ha:dC x<=a
  .rw [nJ ha,nJ (show dC x<=b by omega),show atL (x::l) a=atL l a by unfold atL;rw [Et (by simpa using ha)]]
   simp only [Bo]
   omega
  .rw [rA ha,show atL (x::l) a=x::atL l a by unfold atL;rw [Eu (by simpa using ha)]]
   by_cases hb:dC x<=b
   .rw [nJ hb,nJ hb]
    simp only [Bo]
    omega
   .rw [rA hb,rA hb]
    simp only [Bo]
    omega
theorem aDb (c:Con) (i:Nat) (h:i<(ofL c []).length):(ofL c [])[i]=V3.zero:=by
 have hl:=QV c []
 have h2:c.ok (i:Int):=⟨by omega,by simpa using (show i<c.ns.length by omega)⟩
 have h3:=tO h2 []
 unfold atV at h3
 rw [if_neg (by rw [decide_eq_false (by have:=h2.1;have:=h2.2;omega)];decide),Ck,Aa h] at h3
 exact h3
theorem aJm (c:Con) (h:List Nat) (n half:Int) (i:Nat) (hi:i<h.length):(tkL h (oQ c []) n half)[i]? =some (hJ h[i] (jN n half)):=by
 unfold tkL
 rw [rC _ _ _ _ hi]
 congr 1
 unfold tkS
 split
 .rename_i h1
  have h2:(oQ c [])[0+i]? =some 0:=by
   unfold oQ at h1⊢
   rw [gT] at h1
   rw [rC _ _ _ _ h1,aDb]
   congr 1
   unfold rJ
   split
   .rfl
   .rfl
  rw [h2]
  have h3:hJ 0 (ofF n)=0:=by unfold hJ nT;simp
  show kJ _ (hJ 0 (ofF n))=_
  rw [h3]
  have h4:=yN h[i] (jN n half)
  unfold kJ nT
  rw [Dv]
  split<;>omega
 .rfl
def tkX (s:Sta) (n:Int):Sta:={s with hist:=tkL s.hist (oQ s.c s.run) n s.c.half,now:=s.now+n,run:=atL s.run (s.now+n)}
noncomputable abbrev aD9:Func:=Tryz.f12
theorem WY (s X Y Z:Sta) (a b:Int) (ha:0<=a/\a<=1048576) (hf:LtF s.hist) (hl:s.hist.length<=1048576) (hh:s.c.half<=9223372036854775807) (hX:X.hist.length=s.hist.length) (hXi:∀ (i:Nat) (hi:i<s.hist.length),X.hist[i]? =some (hJ s.hist[i] (jN a s.c.half))):∀ (m i:Nat),i+m=s.hist.length->
  To E aD9 (.pure (.ret (.bool true))) (.head (stk aD9 0) [(2,.ref 0 0),(3,.ref 1 0),(5,.ref 2 0),(14,ii i)] [dU s,.cells 74 [ii a,ii b],dU X]):=by
 have l1:(fv s.hist).length=s.hist.length:=by simp
 have l2:(fv X.hist).length=X.hist.length:=by simp
 have h0:=dH
 have e1:(((fv X.hist).length:Int) !=((fv s.hist).length:Int))=false:=by rw [l1,l2,hX];simp
 intro m
 induction m with
 | zero=>
  intro i hi
  refine gV ?_
  exact zW
 | succ m ih=>
  intro i hi
  have hlt:i<s.hist.length:=by omega
  have g1:=RQ hlt
  have hx:=hf _ (Bl hlt)
  have g2:(fv X.hist)[i]? =some (uu (hJ s.hist[i] (jN a s.c.half))):=by
   have:=hXi i hlt
   simp [fv,this]
  have hap:=TX s.hist[i] a s.c.half hx (by omega) hh
  generalize s.hist[i]=x at *
  generalize hJ x (jN a s.c.half)=y at *
  have e2:((y:Int) !=(y:Int))=false:=by simp
  have next:=ih (i+1) (by omega)
  refine gV ?_
  exact zW
set_option maxHeartbeats 4000000 in
theorem WX (s X Y Z:Sta) (a b:Int) (l1 l2 l3:List Ev) (v:Int) (e1:(v==0)=false) (ha:1<=a/\a<=1048576) (hb:1<=b/\b<=1048576-a) (hn:s.now<=1099509530624/\0<=s.now)
  (hv:aA Tryz.prog 18 [s.av] [] (.ret (ii v)) [])
  (hx:iO s (jW a) (X,l1,0)) (hy:iO X (jW b) (Y,l2,0)) (hz:iO s (jW (a+b)) (Z,l3,0))
  (d1:X.now=s.now+a) (d2:Y.now=Z.now) (d3:l1.length+l2.length=l3.length) (d4:X.run.length+l1.length=s.run.length) (hl:s.run.length<=1000/\l3.length<=1000)
  (k1:aA Tryz.prog 38 [.slice 14 (rav Y.run) .no,.slice 14 (rav Z.run) .no] [] (.ret (.bool true)) [])
  (k2:aA Tryz.prog 39 [.slice 14 (rav s.run) .no,ii X.now] [] (.ret (.slice 14 (rav X.run) .no)) [])
  (k3:aA Tryz.prog 38 [.slice 14 (rav X.run) .no,.slice 14 (rav X.run) .no] [] (.ret (.bool true)) [])
  (next:s.run.length=0->To E aD9 (.pure (.ret (.bool true))) (.head (stk aD9 0) [(2,.ref 0 0),(3,.ref 1 0),(5,.ref 2 0),(14,ii (0:Nat))] [dU s,.cells 74 [ii a,ii b],dU X])):
  aA Tryz.prog 12 [s.av,.agg [ii a,ii b]] [] (.ret (.bool true)) []:=by
 unfold iO at hx hy hz
 have h0:=dH
 have m1:(rav s.run).length=s.run.length:=by simp
 have m2:(rav X.run).length=X.run.length:=by simp
 have m3:(evv l1).length=l1.length:=by simp
 have m4:(evv l2).length=l2.length:=by simp
 have m5:(evv l3).length=l3.length:=by simp
 have f1:(X.now !=s.now+a)=false:=by simp [d1]
 have f2:(Y.now !=Z.now)=false:=by simp [d2]
 have f3:(((evv l1).length:Int)+((evv l2).length:Int) !=((evv l3).length:Int))=false:=by simp;omega
 have f4:(((rav s.run).length:Int) !=((rav X.run).length:Int)+((evv l1).length:Int))=false:=by simp;omega
 by_cases q:s.run.length=0
 .have next:=next q
  have f5:(((rav s.run).length:Int)==0)=true:=by rw [beq_iff_eq];omega
  refine cT (E:=E) (fn:=Tryz.f12) (g:=.pure _) fun _=>?_
  exact zW
 .have f5:(((rav s.run).length:Int)==0)=false:=by rw [beq_eq_false_iff_ne];omega
  refine cT (E:=E) (fn:=Tryz.f12) (g:=.pure _) fun _=>?_
  exact zW
theorem WW (s:Sta) (a b:Int) (hc:s.c.sm) (hs:Sm s.run) (hp:s.pend.length<=1048576) (hf:LtF s.hist):aA Tryz.prog 12 [s.av,.agg [ii a,ii b]] [] (.ret (.bool true)) []:=by
 have h0:=dH
 have h1:=sP s hc hs hp _ rfl
 by_cases q:nI s=0
 .rw [q] at h1
  refine cT (E:=E) (fn:=Tryz.f12) (g:=.pure _) fun _=>?_
  exact zW
 have e1:(nI s==0)=false:=beq_eq_false_iff_ne.2 q
 have fs:=OC q
 have hst:=fs.st hf
 generalize nI s=v at *
 by_cases c1:a<1\/1048576<a\/b<1\/1048576-a<b\/1099509530624<s.now
 .clear hst fs
  refine cT (E:=E) (fn:=Tryz.f12) (g:=.pure _) fun _=>?_
  repeat' first | (refine gN hE ?_;conv=>whnf) | refine .pure _ [] h1 ?_ | refine .pure _ [] h0 ?_ | refine Ac (fun h=>absurd (e1.symm.trans h) (by decide)) (fun _=>?_) | exact rfl | refine aY ?_ | refine aN ?_ | refine aT fun h=>?_ | refine aF fun h=>?_ | refine Ac (fun h=>?_) (fun h=>absurd (of_decide_eq_false h) (by simp only [decide_eq_true_eq,decide_eq_false_iff_not] at *;omega)) | refine Ac (fun h=>absurd (of_decide_eq_true h) (by simp only [decide_eq_true_eq,decide_eq_false_iff_not] at *;omega)) (fun h=>?_) | refine ⟨fun h=>?_,fun h=>?_⟩ | refine aJ ?_ | refine ⟨_,rfl,?_⟩ | refine Ac (by decide) ?_ | refine Ac (by omega) ?_ | refine Fm (Ac (Ac (by simp only [bY];simp only [decide_eq_true_eq,decide_eq_false_iff_not] at *;omega) (by simp only [bI];simp only [decide_eq_true_eq,decide_eq_false_iff_not] at *;omega)) ?_) | fail
  all_goals (exfalso;simp only [decide_eq_true_eq,decide_eq_false_iff_not] at *;omega)
 .have hnow:=fs.now
  have hx:=gQ s (jW a) hst (fun h=>absurd h (show ¬ (5:Int)=1 by decide))
  rw [sC s (by omega) (by omega) (by omega)] at hx
  have eX:(eG s a).1=tkX s a:=by
   unfold eG
   rw [if_neg (by omega),if_neg (by omega)]
   rfl
  have fx:=fs.tick a
  have lx:=aCf hf a
  rw [eX] at fx lx
  have hy:=gQ (tkX s a) (jW b) (fx.st lx) (fun h=>absurd h (show ¬ (5:Int)=1 by decide))
  rw [sC (tkX s a) (by omega) (by omega) (by show s.now+a+b<=_;omega)] at hy
  have hz:=gQ s (jW (a+b)) hst (fun h=>absurd h (show ¬ (5:Int)=1 by decide))
  rw [sC s (by omega) (by omega) (by omega)] at hz
  obtain ⟨p1,p2⟩:=LL s.run (show s.now+a<=s.now+a+b by omega)
  have hab:s.now+(a+b)=s.now+a+b:=by omega
  have hfew:=fs.few
  have hsx:Sm (tkX s a).run:=fx.sm
  have hYZ:(tkX (tkX s a) b).run=(tkX s (a+b)).run:=by
   show atL (atL s.run (s.now+a)) (s.now+a+b)=atL s.run (s.now+(a+b))
   rw [hab]
   exact aHX s.run (by omega)
  have k1:=M9 (tkX (tkX s a) b).run (tkX s (a+b)).run (by
   have:=hsx
   exact ⟨Da (Gd _ _) this.1,fun x hx=>this.2 x (Dx.1 hx).1⟩)
  rw [decide_eq_true hYZ] at k1
  have k3:=M9 (tkX s a).run (tkX s a).run hsx
  rw [decide_eq_true rfl] at k3
  have hfe:=Gd (fun x=>decide (dC x<=s.now+(a+b))) s.run
  have hle:(jZ s.run (s.now+(a+b))).length<=s.run.length:=by unfold jZ;rw [Cj];exact hfe
  refine WX s (tkX s a) (tkX (tkX s a) b) (tkX s (a+b)) a b _ _ _ v e1 (by omega) (by omega) (by omega) h1 hx hy hz rfl (by show s.now+a+b=s.now+(a+b);omega) (by rw [hab];exact p1) p2 (by omega) k1 (aGx s.run hs (s.now+a)) k3 fun hr=>?_
  have hr0:s.run=[]:=Br.1 hr
  refine WY s (tkX s a) (tkX (tkX s a) b) (tkX s (a+b)) a b (by omega) hf hst.run.ord.hl hst.half ?_ (fun i hi=>?_) s.hist.length 0 (by omega)
  .show (tkL _ _ _ _).length=_
   unfold tkL
   exact gT _ _ _
  .show (tkL s.hist (oQ s.c s.run) a s.c.half)[i]? =_
   rw [hr0]
   exact aJm s.c s.hist a s.c.half i hi
def HU (id:Int):List Rn->Int
 | []=>0
 | x::l=>(if bD id x=true then 1 else 0)+HU id l
theorem LU {id:Int}:∀ {l:List Rn} {i:Nat},aP (bD id) l i<0->HU id l=0
 | [],_,_=>rfl
 | x::l,i,h=>by
  unfold aP at h
  unfold HU
  by_cases hx:bD id x=true
  .rw [if_pos hx] at h
   omega
  .rw [if_neg hx] at h⊢
   rw [LU h]
   rfl
theorem LV {id:Int}:∀ {l:List Rn},(∀ x∈l,x.g.id≠id)->HU id l=0
 | [],_=>rfl
 | x::l,h=>by
  unfold HU
  have hx:=h x (Ar ..)
  rw [if_neg (by unfold bD;simpa using hx),LV fun y hy=>h y (Bj _ hy)]
  rfl
theorem SG {id:Int}:∀ {l:List Rn} {i:Nat},(l.map fun x=>x.g.id).Nodup->0<=aP (bD id) l i->HU id l=1/\(aC l [id]).length+1=l.length
 | [],_,_,h=>by have h:(0:Int)<= -1:=h;omega
 | x::l,i,hn,h=>by
  rw [Bk,Cc] at hn
  unfold aP at h
  unfold HU
  by_cases hx:bD id x=true
  .have hxi:x.g.id=id:=by unfold bD at hx;simpa using hx
   have hm:∀ y∈l,y.g.id≠id:=fun y hy e=>hn.1 (by rw [hxi,<-e];exact Cm hy)
   rw [if_pos hx,LV hm]
   refine ⟨rfl,?_⟩
   rw [jG (oB.2 (by rw [hxi];exact Hj _))]
   rw [show aC l [id]=l from Fu.2 fun y hy=>by
    cases hb:inB y.g.id [id] with
    | false=>rfl
    | true=>exact absurd (by simpa using oB.1 hb) (hm y hy)]
   rfl
  .rw [if_neg hx] at h⊢
   obtain ⟨h1,h2⟩:=SG (i:=i+1) hn.2 h
   rw [h1]
   refine ⟨rfl,?_⟩
   have hb:inB x.g.id [id]=false:=by
    cases hb:inB x.g.id [id] with
    | false=>rfl
    | true=>exact absurd (by unfold bD;simpa using oB.1 hb) hx
   rw [jF hb,Bo,h2,Bo]
theorem BS (s:Sta) (k id:Int) (hk:k=3\/k=4) (h1:0<=id) (h2:id<=1099511627776):aV s ⟨k,uN,Gan.zero,id⟩=if 0<=aP (bD id) s.run 0 then ({s with run:=aC s.run [id]},[],0) else if k=3\/eM id s.pend<0 then (s,[],4) else ({s with pend:=cI s.pend id},[],0):=by
 have hc:C8.chk ⟨k,uN,Gan.zero,id⟩=0:=aFC k id (by omega) h1 h2
 unfold aV
 rw [if_neg (by rw [hc];decide)]
 rcases hk with rfl | rfl<;>rfl
theorem W3 {l:List Pn} {a:Int} (h:¬ eM a l<0):(cI l a).length+1=l.length:=by
 rcases uH a l with ⟨_,e⟩ | ⟨A,p,B,e1,e2,e3⟩
 .omega
 .unfold cI
  rw [if_neg h,e3,e1]
  show ((A++p::B).eraseIdx A.length).length+1=_
  rw [Gz (Au _),Kx]
  simp
  omega
noncomputable abbrev LK:Func:=Tryz.f13
abbrev goF (id e f:Int) (w:Bool) (c:Int) (i:Int):List (Nat×AVal):=[(1,ii id),(2,.ref 0 0),(5,.ref 1 0),(7,ii e),(8,.ref 2 0),(10,ii f),(11,.bool w),(12,ii c),(13,ii i)]
theorem BU (s X Y:Sta) (id e f:Int) (w:Bool) (C:Int) (hl:s.run.length<=1000) (hfin:To E LK (.pure (.ret (.bool true))) (.head (stk LK 0) (goF id e f w C (s.run.length:Nat)) [dU s,dU X,dU Y])):∀ (m i:Nat) (c:Int),i+m=s.run.length->0<=c/\c<=i->c+HU id (s.run.drop i)=C->
  To E LK (.pure (.ret (.bool true))) (.head (stk LK 0) (goF id e f w c i) [dU s,dU X,dU Y]):=by
 have hlen:(rav s.run).length=s.run.length:=by simp
 intro m
 induction m with
 | zero=>
  intro i c hi _ hC
  rw [Ae (by omega)] at hC
  have hC:c+0=C:=hC
  obtain rfl:c=C:=by omega
  obtain rfl:i=s.run.length:=by omega
  exact hfin
 | succ m ih=>
  intro i c hi hc hC
  have hlt:i<s.run.length:=by omega
  rw [Ad hlt] at hC
  have get:=bN hlt
  generalize s.run[i]=x at get hC
  unfold HU at hC
  by_cases hx:bD id x=true
  .rw [if_pos hx] at hC
   have next:=ih (i+1) (c+1) (by omega) (by omega) (by omega)
   have e1:(x.g.id==id)=true:=hx
   clear ih hfin
   refine gV ?_
   exact zW
  .rw [if_neg hx] at hC
   have next:=ih (i+1) c (by omega) (by omega) (by omega)
   have e1:(x.g.id==id)=false:=by cases h:x.g.id==id with | false=>rfl | true=>exact absurd h hx
   clear ih hfin
   refine gV ?_
   exact zW
theorem HB (s X Y:Sta) (id e f C:Int) (w:Bool) (h:(e=0/\f=0/\w=false/\C=1)\/(e=0/\f=4/\w=true/\C=0)\/(e=4/\f=4/\w=false/\C=0))
  (h1:(X.pend.length:Int)+X.run.length+(if e=0 then 1 else 0)=(s.pend.length:Int)+s.run.length) (h2:Y.pend.length=s.pend.length) (h3:(Y.run.length:Int)+C=s.run.length) (hl:s.pend.length<=1000/\s.run.length<=1000):
  To E LK (.pure (.ret (.bool true))) (.head (stk LK 0) (goF id e f w C (s.run.length:Nat)) [dU s,dU X,dU Y]):=by
 have l1:(pnv s.pend).length=s.pend.length:=by simp
 have l2:(rav s.run).length=s.run.length:=by simp
 have l3:(pnv X.pend).length=X.pend.length:=by simp
 have l4:(rav X.run).length=X.run.length:=by simp
 have l5:(pnv Y.pend).length=Y.pend.length:=by simp
 have l6:(rav Y.run).length=Y.run.length:=by simp
 have h0:=dH
 have g2:(((pnv Y.pend).length:Int)==((pnv s.pend).length:Int))=true:=by rw [beq_iff_eq];omega
 have g3:(((rav Y.run).length:Int)+C==((rav s.run).length:Int))=true:=by rw [beq_iff_eq];omega
 rcases h with ⟨rfl,rfl,rfl,rfl⟩ | ⟨rfl,rfl,rfl,rfl⟩ | ⟨rfl,rfl,rfl,rfl⟩
 all_goals
  simp only [reduceIte,show ¬ (4:Int)=0 by decide] at h1
 .have g1:(((pnv X.pend).length:Int)+((rav X.run).length:Int)+1==((pnv s.pend).length:Int)+((rav s.run).length:Int))=true:=by rw [beq_iff_eq];omega
  refine gV ?_
  exact zW
 .have g1:(((pnv X.pend).length:Int)+((rav X.run).length:Int)+1==((pnv s.pend).length:Int)+((rav s.run).length:Int))=true:=by rw [beq_iff_eq];omega
  refine gV ?_
  exact zW
 .have g1:(((pnv X.pend).length:Int)+((rav X.run).length:Int)+0==((pnv s.pend).length:Int)+((rav s.run).length:Int))=true:=by rw [beq_iff_eq];omega
  refine gV ?_
  exact zW
theorem BT (s X Y:Sta) (id e f:Int) (w:Bool) (a:Int) (ha:decide (0<=a)=w) (h1:0<=id/\id<=1099511627776) (v:Int) (e1:(v==0)=false)
  (hv:aA Tryz.prog 18 [s.av] [] (.ret (ii v)) []) (hch:aA Tryz.prog 41 [s.c.av] [] (.ret (ii 0)) [])
  (hx:iO s ⟨4,uN,Gan.zero,id⟩ (X,[],e)) (hy:iO s ⟨3,uN,Gan.zero,id⟩ (Y,[],f)) (hq:aA Tryz.prog 42 [.slice 11 (pnv s.pend) .no,ii id] [] (.ret (ii a)) [])
  (next:To E LK (.pure (.ret (.bool true))) (.head (stk LK 0) (goF id e f w 0 (0:Nat)) [dU s,dU X,dU Y])):aA Tryz.prog 13 [s.av,ii id] [] (.ret (.bool true)) []:=by
 unfold iO at hx hy
 subst ha
 refine cT (E:=E) (fn:=Tryz.f13) (g:=.pure _) fun _=>?_
 exact zW
theorem aDX (s:Sta) (id:Int) (hc:s.c.sm) (hs:Sm s.run) (hp:s.pend.length<=1048576) (hf:LtF s.hist):aA Tryz.prog 13 [s.av,ii id] [] (.ret (.bool true)) []:=by
 have h0:=dH
 have h1:=sP s hc hs hp _ rfl
 by_cases q:nI s=0
 .rw [q] at h1
  refine cT (E:=E) (fn:=Tryz.f13) (g:=.pure _) fun _=>?_
  exact zW
 have e1:(nI s==0)=false:=beq_eq_false_iff_ne.2 q
 have fs:=OC q
 have hst:=fs.st hf
 have hch:=LZ s.c hc
 generalize nI s=v at *
 by_cases q2:bB s.c=0
 .by_cases q3:0<=id/\id<=1099511627776
  .rw [q2] at hch
   have hq:=TL s.pend id (by have:=fs.few;omega)
   have hx:=gQ s ⟨4,uN,Gan.zero,id⟩ hst (fun h=>absurd h (show ¬ (4:Int)=1 by decide))
   have hy:=gQ s ⟨3,uN,Gan.zero,id⟩ hst (fun h=>absurd h (show ¬ (3:Int)=1 by decide))
   rw [BS s 4 id (.inr rfl) q3.1 q3.2] at hx
   rw [BS s 3 id (.inl rfl) q3.1 q3.2] at hy
   have hfew:=fs.few
   have hids:=fs.ids
   rw [Bu,Bm,Fg] at hids
   by_cases q4:0<=aP (bD id) s.run 0
   .rw [if_pos q4] at hx hy
    obtain ⟨k1,k2⟩:=SG hids.2.1 q4
    have hw:decide (0<=eM id s.pend)=false:=by
     rw [decide_eq_false_iff_not]
     intro h
     exact SQ fs.base (by omega) q4
    refine BT s _ _ id 0 0 false _ hw q3 v e1 h1 hch hx hy hq ?_
    refine BU s _ _ id 0 0 false 1 (by omega) ?_ s.run.length 0 0 (by omega) (by omega) (by rw [Bt,k1];rfl)
    refine HB s _ _ id 0 0 1 false (.inl ⟨rfl,rfl,rfl,rfl⟩) ?_ rfl ?_ (by omega)
    .show (s.pend.length:Int)+(aC s.run [id]).length+1=_
     omega
    .show ((aC s.run [id]).length:Int)+1=_
     omega
   .rw [if_neg q4] at hx hy
    have k1:=LU (show aP (bD id) s.run 0<0 by omega)
    rw [if_pos (.inl rfl)] at hy
    by_cases q5:eM id s.pend<0
    .rw [if_pos (.inr q5)] at hx
     have hw:decide (0<=eM id s.pend)=false:=decide_eq_false (by omega)
     refine BT s _ _ id 4 4 false _ hw q3 v e1 h1 hch hx hy hq ?_
     refine BU s _ _ id 4 4 false 0 (by omega) ?_ s.run.length 0 0 (by omega) (by omega) (by rw [Bt,k1];rfl)
     refine HB s _ _ id 4 4 0 false (.inr (.inr ⟨rfl,rfl,rfl,rfl⟩)) ?_ rfl ?_ (by omega)
     .rw [if_neg (by decide)]
      omega
     .omega
    .rw [if_neg (fun h=>h.elim (fun h=>absurd h (by decide)) q5)] at hx
     have hw:decide (0<=eM id s.pend)=true:=decide_eq_true (by omega)
     have k2:=W3 q5
     refine BT s _ _ id 0 4 true _ hw q3 v e1 h1 hch hx hy hq ?_
     refine BU s _ _ id 0 4 true 0 (by omega) ?_ s.run.length 0 0 (by omega) (by omega) (by rw [Bt,k1];rfl)
     refine HB s _ _ id 0 4 0 true (.inr (.inl ⟨rfl,rfl,rfl,rfl⟩)) ?_ rfl ?_ (by omega)
     .show ((cI s.pend id).length:Int)+s.run.length+1=_
      omega
     .omega
  .rw [q2] at hch
   clear hst
   refine cT (E:=E) (fn:=Tryz.f13) (g:=.pure _) fun _=>?_
   exact zW
 .have e2:(bB s.c !=0)=true:=by simpa using q2
  clear hst
  generalize bB s.c=u at *
  refine cT (E:=E) (fn:=Tryz.f13) (g:=.pure _) fun _=>?_
  exact zW
noncomputable abbrev U3:Func:=Tryz.f10
theorem aGb (L:List Cmd) (i:Nat) (hi:i<1048576) (s:Sta) (o:OkS s) (cont:To (Er [] [33,34]) U3 (.pure (.ret (.bool true))) (.head (stk U3 0) [(0,.slice 15 (cmv L) .no),(3,.ref 0 0),(4,ii ((i:Int)+1))] [dU s])):∀ (m k:Nat),k+m=s.run.length->
  To (Er [] [33,34]) U3 (.pure (.ret (.bool true))) (.head (stk U3 1) [(0,.slice 15 (cmv L) .no),(3,.ref 0 0),(4,ii i),(5,ii k)] [dU s]):=by
 have hlen:(rav s.run).length=s.run.length:=by simp
 have hfew:=o.few
 intro m
 induction m with
 | zero=>
  intro k hk
  refine gV ?_
  exact zW
 | succ m ih=>
  intro k hk
  have hlt:k<s.run.length:=by omega
  have get:=bN hlt
  have hm:=Bl hlt
  obtain ⟨t1,_,t3,_⟩:=o.run.time _ hm
  have p1:=(o.run.plc _ hm).1
  generalize s.run[k]=x at get t1 t3 p1
  have e1:(((iv x.hs).length:Int) !=x.g.pods)=false:=by simp [p1]
  have hen:=JJ x _ rfl
  generalize dC x=en at *
  have next:=ih (k+1) (by omega)
  refine gV ?_
  exact zW
theorem aCw (L:List Cmd) (hL:L.length<=60) (hc:∀ x∈L,x.c.sm):∀ (m i:Nat) (s:Sta),i+m=L.length->OkL s (L.drop i)->
  To (Er [] [33,34]) U3 (.pure (.ret (.bool true))) (.head (stk U3 0) [(0,.slice 15 (cmv L) .no),(3,.ref 0 0),(4,ii i)] [dU s]):=by
 have hlen:(cmv L).length=L.length:=by simp
 have h0:=dH
 intro m
 induction m with
 | zero=>
  intro i s hi _
  refine gV ?_
  exact zW
 | succ m ih=>
  intro i s hi ho
  have hlt:i<L.length:=by omega
  have hxm:=hc L[i] (Bl hlt)
  rw [Ad hlt] at ho
  have get:(cmv L)[i]? =some L[i].av:=by simp [hlt]
  generalize L[i]=x at ho get hxm
  cases hb:decide (x.c.ns.length+x.c.hs.length<=500) with
  | false=>
   have h4:=qO x _ hb hxm
   clear ih
   refine gV ?_
   exact zW
  | true=>
   have h4:=qO x _ hb hxm
   obtain ⟨ha,ho2⟩:=A6 s x _ ho
   have o2:=ho2.1.ok
   have next:=aGb L i (by omega) (aV s x).1 o2 (ih (i+1) (aV s x).1 (by omega) ho2) (aV s x).1.run.length 0 (by omega)
   have hfull:=aAu (aV s x).1 o2
   have hfew:=o2.few
   have hq:=Q2.checkref_ok ((aV s x).1.pend.map Pn.q) (by rw [Cj];omega)
   have hids:=o2.ids
   rw [Bu,Bm] at hids
   rw [rT,show Q2.checkP ((aV s x).1.pend.map Pn.q)=true from (QG hids.1).2 o2.row] at hq
   have l1:(pnv (aV s x).1.pend).length=(aV s x).1.pend.length:=by simp
   have l5:(rav (aV s x).1.run).length=(aV s x).1.run.length:=by simp
   have e1:(((fv (aV s x).1.hist).length:Int) !=((nav (aV s x).1.c.ns).length:Int))=false:=by
    have:=o2.hist
    simp [this]
   unfold iO at ha
   generalize aV s x=r at *
   obtain ⟨S,ev,e⟩:=r
   dsimp only at *
   clear ih hids o2 ho2 ho
   refine gV ?_
   exact zW
theorem TA (L:List Cmd) (hL:L.length<=1048576) (hc:∀ x∈L,x.c.sm):aA Tryz.prog 10 [.slice 15 (cmv L) .no] [] (.ret (.bool true)) []:=by
 have hlen:(cmv L).length=L.length:=by simp
 have h0:=dH
 by_cases q:60<L.length
 .refine cT (E:=(Er [] [33,34])) (fn:=Tryz.f10) (g:=.pure _) fun _=>?_
  exact zW
 .have next:=aCw L (by omega) hc L.length 0 AA (by omega) (by rw [Bt];exact A5 (by omega) hc)
  have hw:=F4
  refine cT (E:=(Er [] [33,34])) (fn:=Tryz.f10) (g:=.pure _) fun _=>?_
  exact zW
open Go.ChangeShapes Go.WideShapes Go.ChangeAt Go.RowKit
set_option maxRecDepth 100000
theorem aBv {H:Type} (d:DataW H):1<=Rows.uptoBulk d:=by
 cases d with
 | lit l=>cases l<;>simp [Rows.uptoBulk]
 | _=>simp [Rows.uptoBulk]
theorem wM {H:Type} {d:DataW H}:∀ {l:List (DataW H)},d∈l->Rows.uptoBulk d<=Rows.uptoBulkAll l
 | [],h=>by cases h
 | x::r,h=>by
  simp only [Rows.uptoBulkAll]
  rcases Bd.1 h with rfl | h
  .omega
  .have:=wM h
   omega
theorem MB {H:Type}:∀ (l:List (DataW H)),l.length<=Rows.uptoBulkAll l
 | []=>by simp
 | x::r=>by
  have:=aBv x
  have:=MB r
  simp only [Rows.uptoBulkAll,Bo]
  omega
theorem SP (H:Type) (N:Nat):Bulk H N (fun d=>Rows.uptoBulk d<=N) where
 str l h:=by
  simp only [Rows.uptoBulk] at h
  omega
 sl e r h:=by
  simp only [Rows.uptoBulk] at h
  have:=MB e
  exact ⟨by omega,fun d hd=>by have:=wM hd;omega⟩
 agg l h:=by
  simp only [Rows.uptoBulk] at h
  exact fun d hd=>by have:=wM hd;omega
section
variable {N:Nat}
theorem aFY {n:Nat} {cs:List AVal} (h:TyN Tryz.prog N (n+1) 3 cs):∃ m:Int,cs=[ii m]/\ -9223372036854775808<=m/\m<=9223372036854775807:=by
 unfold TyN at h
 rw [Tryz.underlying3] at h
 obtain ⟨m,h,h1,h2⟩:=h
 simp only [bY,bI] at h1 h2
 exact ⟨m,h,by omega,by omega⟩
theorem dI {n:Nat} {cs:List AVal} (h:TyN Tryz.prog N (n+1) 3 cs):∃ m:Int,cs=[ii m]:=by
 unfold TyN at h
 rw [Tryz.underlying3] at h
 obtain ⟨m,h,_⟩:=h
 exact ⟨m,h⟩
theorem IQ {n:Nat} {cs:List AVal} (h:TyN Tryz.prog N (n+2) 34 cs):∃ v:V3,cs=v.cs:=by
 unfold TyN at h
 rw [Tryz.underlying34] at h
 obtain ⟨xs,hl,hx,rfl⟩:=h
 match xs,hl,hx with
 | [x,y,z],_,hx=>
  obtain ⟨a,rfl⟩:=dI (hx x (by simp))
  obtain ⟨b,rfl⟩:=dI (hx y (by simp))
  obtain ⟨c,rfl⟩:=dI (hx z (by simp))
  exact ⟨⟨a,b,c⟩,rfl⟩
theorem MX {n:Nat} {cs:List AVal} (h:TyN Tryz.prog N (n+3) 36 cs):∃ g:Gan,cs=g.cs:=by
 unfold TyN at h
 rw [Tryz.underlying36] at h
 obtain ⟨x0,r,rfl,h0,x1,r,rfl,h1,x2,r,rfl,h2,x3,r,rfl,h3,x4,r,rfl,h4,x5,r,rfl,h5,x6,r,rfl,h6,rfl⟩:=h
 obtain ⟨a0,rfl⟩:=dI h0
 obtain ⟨a1,rfl⟩:=dI h1
 obtain ⟨a2,rfl⟩:=dI h2
 obtain ⟨v,rfl⟩:=IQ h3
 obtain ⟨a4,rfl⟩:=dI h4
 obtain ⟨a5,rfl⟩:=dI h5
 obtain ⟨a6,rfl⟩:=dI h6
 exact ⟨⟨a0,a1,a2,v,a4,a5,a6⟩,rfl⟩
theorem xN {α:Type} {av:α->AVal} {P:AVal->Prop} {Q:α->Prop} (hP:∀ x,P x->∃ p:α,x=av p/\Q p):∀ (xs:List AVal),(∀ x∈xs,P x)->∃ l:List α,xs=l.map av/\∀ p∈l,Q p
 | [],_=>⟨[],rfl,fun p h=>by cases h⟩
 | x::xs,h=>by
  obtain ⟨p,rfl,hp⟩:=hP x (h x (by simp))
  obtain ⟨l,rfl,hl⟩:=xN hP xs fun x hx=>h x (by simp [hx])
  exact ⟨p::l,rfl,fun q hq=>by
   rcases Bd.1 hq with rfl | hq
   .exact hp
   .exact hl q hq⟩
theorem aFX {n:Nat} {cs:List AVal} (h:TyN Tryz.prog N (n+2) 47 cs):∃ l:List Int,cs=[.slice 1 (iv l) .no]/\l.length<=N:=by
 unfold TyN at h
 rw [Tryz.underlying47] at h
 obtain ⟨xs,rfl,hN,hx⟩:=h
 have hc:Tryz.prog.cellsOf 3=1:=by kernel_rfl
 have ha:aK Tryz.prog 3=false:=by kernel_rfl
 obtain ⟨l,rfl,_⟩:=xN (av:=fun m:Int=>ii m) (Q:=fun _=>True) (P:=fun x=>x∈xs) (fun x hm=>by
  obtain ⟨m,e⟩:=dI (n:=n) (hx x hm).1
  have e2:=(hx x hm).2.2 ha
  rw [e] at e2
  exact ⟨m,(Em e2).1.symm,trivial⟩) xs fun x hm=>hm
 exact ⟨l,by rw [hc],by simpa using hN⟩
theorem aH8 {n:Nat} {cs:List AVal} (h:TyN Tryz.prog N (n+4) 53 cs):∃ x:Rn,cs=x.cs/\x.hs.length<=N:=by
 unfold TyN at h
 rw [Tryz.underlying53] at h
 obtain ⟨x0,r,rfl,h0,x1,r,rfl,h1,x2,r,rfl,h2,x3,r,rfl,h3,x4,r,rfl,h4,x5,r,rfl,h5,rfl⟩:=h
 obtain ⟨g,rfl⟩:=MX h0
 obtain ⟨a1,rfl⟩:=dI h1
 obtain ⟨a2,rfl⟩:=dI h2
 obtain ⟨a3,rfl⟩:=dI h3
 obtain ⟨a4,rfl⟩:=dI h4
 obtain ⟨l,rfl,hl⟩:=aFX (n:=n+1) h5
 exact ⟨⟨g,a1,a2,a3,a4,l⟩,rfl,hl⟩
end
section
variable {N:Nat}
theorem aFW {n:Nat} {cs:List AVal} (h:TyN Tryz.prog N (n+3) 104 cs):∃ x:Nod,cs=x.cs:=by
 unfold TyN at h
 rw [Tryz.underlying104] at h
 obtain ⟨x0,r,rfl,h0,x1,r,rfl,h1,x2,r,rfl,h2,x3,r,rfl,h3,x4,r,rfl,h4,rfl⟩:=h
 obtain ⟨a0,rfl⟩:=dI h0
 obtain ⟨a1,rfl⟩:=dI h1
 obtain ⟨u,rfl⟩:=IQ h2
 obtain ⟨v,rfl⟩:=IQ h3
 obtain ⟨w,rfl⟩:=IQ h4
 exact ⟨⟨a0,a1,u,v,w⟩,rfl⟩
theorem aFZ {n:Nat} {cs:List AVal} (h:TyN Tryz.prog N (n+3) 106 cs):∃ x:Hos,cs=x.cs:=by
 unfold TyN at h
 rw [Tryz.underlying106] at h
 obtain ⟨x0,r,rfl,h0,x1,r,rfl,h1,x2,r,rfl,h2,x3,r,rfl,h3,rfl⟩:=h
 obtain ⟨a0,rfl⟩:=dI h0
 obtain ⟨a1,rfl⟩:=dI h1
 obtain ⟨a2,rfl⟩:=dI h2
 obtain ⟨v,rfl⟩:=IQ h3
 exact ⟨⟨a0,a1,a2,v⟩,rfl⟩
theorem aCb {n:Nat} {cs:List AVal} (h:TyN Tryz.prog N (n+4) 23 cs):∃ l:List Nod,cs=[.slice 11 (nav l) .no]/\l.length<=N:=by
 unfold TyN at h
 rw [Tryz.underlying23] at h
 obtain ⟨xs,rfl,hN,hx⟩:=h
 have hc:Tryz.prog.cellsOf 104=11:=by kernel_rfl
 obtain ⟨l,rfl,hl⟩:=xN (av:=Nod.av) (Q:=fun x=>True) (P:=fun x=>x∈xs) (fun x hm=>by
  obtain ⟨cs,rfl⟩:=(hx x hm).2.1 (by kernel_rfl)
  obtain ⟨p,hp⟩:=aFW (n:=n) (hx _ hm).1
  exact ⟨p,by unfold Nod.av;rw [<-hp];rfl,trivial⟩) xs fun x hm=>hm
 exact ⟨l,by rw [hc],by simpa using hN⟩
theorem aCc {n:Nat} {cs:List AVal} (h:TyN Tryz.prog N (n+4) 24 cs):∃ l:List Hos,cs=[.slice 6 (hav l) .no]/\l.length<=N:=by
 unfold TyN at h
 rw [Tryz.underlying24] at h
 obtain ⟨xs,rfl,hN,hx⟩:=h
 have hc:Tryz.prog.cellsOf 106=6:=by kernel_rfl
 obtain ⟨l,rfl,hl⟩:=xN (av:=Hos.av) (Q:=fun x=>True) (P:=fun x=>x∈xs) (fun x hm=>by
  obtain ⟨cs,rfl⟩:=(hx x hm).2.1 (by kernel_rfl)
  obtain ⟨p,hp⟩:=aFZ (n:=n) (hx _ hm).1
  exact ⟨p,by unfold Hos.av;rw [<-hp];rfl,trivial⟩) xs fun x hm=>hm
 exact ⟨l,by rw [hc],by simpa using hN⟩
theorem aFg {n:Nat} {cs:List AVal} (h:TyN Tryz.prog 1048576 (n+5) 26 cs):∃ c:Con,cs=c.cs/\c.sm:=by
 unfold TyN at h
 rw [Tryz.underlying26] at h
 obtain ⟨x0,r,rfl,h0,x1,r,rfl,h1,x2,r,rfl,h2,x3,r,rfl,h3,rfl⟩:=h
 obtain ⟨ns,rfl,l0⟩:=aCb (n:=n) h0
 obtain ⟨hs,rfl,l1⟩:=aCc (n:=n) h1
 obtain ⟨a2,rfl⟩:=dI h2
 obtain ⟨a3,rfl⟩:=dI h3
 exact ⟨⟨ns,hs,a2,a3⟩,rfl,⟨l0,l1⟩⟩
end
theorem aB9 {N n:Nat} {cs:List AVal} (hN0:N<=1048576) (h:TyN Tryz.prog N (n+5) 28 cs):∃ l:List Rn,cs=[.slice 14 (rav l) .no]/\Sm l/\l.length<=N:=by
 unfold TyN at h
 rw [Tryz.underlying28] at h
 obtain ⟨xs,rfl,hN,hx⟩:=h
 have hc:Tryz.prog.cellsOf 53=14:=by kernel_rfl
 obtain ⟨l,rfl,hl⟩:=xN (av:=Rn.av) (Q:=fun x=>x.hs.length<=1048576) (P:=fun x=>x∈xs) (fun x hm=>by
  obtain ⟨cs,rfl⟩:=(hx x hm).2.1 (by kernel_rfl)
  obtain ⟨p,hp,hq⟩:=aH8 (n:=n) (hx _ hm).1
  exact ⟨p,by unfold Rn.av;rw [<-hp];rfl,Da hq hN0⟩) xs fun x hm=>hm
 exact ⟨l,by rw [hc],⟨Da (by simpa using hN) hN0,hl⟩,by simpa using hN⟩
theorem aFV {N n:Nat} {cs:List AVal} (h:TyN Tryz.prog N (n+4) 102 cs):∃ x:Pn,cs=x.cs:=by
 unfold TyN at h
 rw [Tryz.underlying102] at h
 obtain ⟨x0,r,rfl,h0,x1,r,rfl,h1,x2,r,rfl,h2,rfl⟩:=h
 obtain ⟨g,rfl⟩:=MX h0
 obtain ⟨a1,rfl⟩:=dI h1
 obtain ⟨a2,rfl⟩:=dI h2
 exact ⟨⟨g,a1,a2⟩,rfl⟩
theorem aCa {N n:Nat} {cs:List AVal} (h:TyN Tryz.prog N (n+5) 27 cs):∃ l:List Pn,cs=[.slice 11 (pnv l) .no]/\l.length<=N:=by
 unfold TyN at h
 rw [Tryz.underlying27] at h
 obtain ⟨xs,rfl,hN,hx⟩:=h
 have hc:Tryz.prog.cellsOf 102=11:=by kernel_rfl
 obtain ⟨l,rfl,_⟩:=xN (av:=Pn.av) (Q:=fun _=>True) (P:=fun x=>x∈xs) (fun x hm=>by
  obtain ⟨cs,rfl⟩:=(hx x hm).2.1 (by kernel_rfl)
  obtain ⟨p,hp⟩:=aFV (n:=n) (hx _ hm).1
  exact ⟨p,by unfold Pn.av;rw [<-hp];rfl,trivial⟩) xs fun x hm=>hm
 exact ⟨l,by rw [hc],by simpa using hN⟩
theorem aH9 {N n:Nat} {cs:List AVal} (h:TyN Tryz.prog N (n+1) 78 cs):∃ x:Nat,cs=[.int .u64 (x:Int)]/\x<18446744073709551616:=by
 unfold TyN at h
 rw [Tryz.underlying78] at h
 obtain ⟨m,rfl,h1,h2⟩:=h
 simp only [bY,bI] at h1 h2
 exact ⟨m.toNat,by rw [show ((m.toNat:Nat):Int)=m from by omega],by omega⟩
theorem aF0 {N n:Nat} {cs:List AVal} (h:TyN Tryz.prog N (n+2) 29 cs):∃ l:List Nat,cs=[.slice 1 (fv l) .no]/\l.length<=N/\∀ x∈l,x<18446744073709551616:=by
 unfold TyN at h
 rw [Tryz.underlying29] at h
 obtain ⟨xs,rfl,hN,hx⟩:=h
 have hc:Tryz.prog.cellsOf 78=1:=by kernel_rfl
 have ha:aK Tryz.prog 78=false:=by kernel_rfl
 obtain ⟨l,rfl,hl⟩:=xN (av:=fun x:Nat=>.int .u64 (x:Int)) (Q:=fun x=>x<18446744073709551616) (P:=fun x=>x∈xs) (fun x hm=>by
  obtain ⟨m,e,hm2⟩:=aH9 (n:=n) (hx x hm).1
  have e2:=(hx x hm).2.2 ha
  rw [e] at e2
  exact ⟨m,(Em e2).1.symm,hm2⟩) xs fun x hm=>hm
 exact ⟨l,by rw [hc],by simpa using hN,hl⟩
structure StaSm (s:Sta):Prop where
 c:s.c.sm
 pend:s.pend.length<=1048576
 run:Sm s.run
 hist:s.hist.length<=1048576
 fix:∀ x∈s.hist,x<18446744073709551616
theorem aH7 {n:Nat} {cs:List AVal} (h:TyN Tryz.prog 1048576 (n+6) 31 cs):∃ s:Sta,cs=s.cs/\StaSm s:=by
 unfold TyN at h
 rw [Tryz.underlying31] at h
 obtain ⟨x0,r,rfl,h0,x1,r,rfl,h1,x2,r,rfl,h2,x3,r,rfl,h3,x4,r,rfl,h4,x5,r,rfl,h5,rfl⟩:=h
 obtain ⟨c,rfl,hc⟩:=aFg (n:=n) h0
 obtain ⟨now,rfl⟩:=dI h1
 obtain ⟨k,rfl⟩:=dI h2
 obtain ⟨ws,rfl,hw⟩:=aCa (n:=n) h3
 obtain ⟨l,rfl,hl,_⟩:=aB9 (n:=n) (Au _) h4
 obtain ⟨zs,rfl,hz,hf⟩:=aF0 (n:=n+3) h5
 exact ⟨⟨c,now,k,ws,l,zs⟩,rfl,hc,hw,hl,hz,hf⟩
structure CmSm (x:Cmd):Prop where
 c:x.c.sm
 n: -9223372036854775808<=x.n/\x.n<=9223372036854775807
theorem aFh {n:Nat} {cs:List AVal} (h:TyN Tryz.prog 1048576 (n+6) 38 cs):∃ x:Cmd,cs=x.cs/\CmSm x:=by
 unfold TyN at h
 rw [Tryz.underlying38] at h
 obtain ⟨x0,r,rfl,h0,x1,r,rfl,h1,x2,r,rfl,h2,x3,r,rfl,h3,rfl⟩:=h
 obtain ⟨k,rfl⟩:=dI h0
 obtain ⟨c,rfl,hc⟩:=aFg (n:=n) h1
 obtain ⟨g,rfl⟩:=MX (n:=n+2) h2
 obtain ⟨m,rfl,hm⟩:=aFY h3
 exact ⟨⟨k,c,g,m⟩,rfl,hc,hm⟩
section
variable {H:Type} {enc:TypeId×Value->H} {W:World} {r:Reach} {base b0:Nat} {spare:Nat->Bool} {held:Bool} {v:Value} {d:DataW H} {ps:List MemPlace}
theorem pN (hv:Ei Tryz.prog W r b0 31 v) (h:DataW.Trod enc Tryz.prog W base spare held 31 v d ps) (hG:Rows.uptoBulk d<=1048576):∃ s:Sta,Rep (Mw W) [] v s.av/\StaSm s:=by
 obtain ⟨cs0,hr,ht⟩:=CZ (n:=6) (SP H 1048576) (by kernel_rfl) (by kernel_rfl) hv h hG
 obtain ⟨s,rfl,hs⟩:=aH7 (n:=0) ht
 exact ⟨s,hr,hs⟩
theorem Y6 (hv:Ei Tryz.prog W r b0 3 v):∃ n:Int,Rep (Mw W) [] v (ii n):=by
 obtain ⟨m,rfl,h⟩:=aDa (k:=.i64) (by kernel_rfl) (J7 (by kernel_rfl) hv)
 exact ⟨m,.int _ m h⟩
theorem Y5 (hv:Ei Tryz.prog W r b0 74 v) (h:DataW.Trod enc Tryz.prog W base spare held 74 v d ps) (hG:Rows.uptoBulk d<=1048576):∃ a b:Int,Rep (Mw W) [] v (.agg [ii a,ii b]):=by
 obtain ⟨cs0,hr,ht⟩:=CZ (n:=2) (SP H 1048576) (by kernel_rfl) (by kernel_rfl) hv h hG
 unfold TyN at ht
 rw [Tryz.underlying74] at ht
 obtain ⟨xs,hl,hx,rfl⟩:=ht
 match xs,hl,hx with
 | [x,y],_,hx=>
  obtain ⟨a,rfl⟩:=dI (hx x (by simp))
  obtain ⟨b,rfl⟩:=dI (hx y (by simp))
  exact ⟨a,b,hr⟩
theorem Y7 (hv:Ei Tryz.prog W r b0 38 v) (h:DataW.Trod enc Tryz.prog W base spare held 38 v d ps) (hG:Rows.uptoBulk d<=1048576):∃ x:Cmd,Rep (Mw W) [] v x.av/\CmSm x:=by
 obtain ⟨cs0,hr,ht⟩:=CZ (n:=6) (SP H 1048576) (by kernel_rfl) (by kernel_rfl) hv h hG
 obtain ⟨x,rfl,hx⟩:=aFh (n:=0) ht
 exact ⟨x,hr,hx⟩
theorem T7 (hv:Ei Tryz.prog W r b0 22 v) (h:DataW.Trod enc Tryz.prog W base spare held 22 v d ps) (hG:Rows.uptoBulk d<=1048576):∃ l:List Cmd,Rep (Mw W) [] v (.slice 15 (cmv l) .no)/\l.length<=1048576/\∀ x∈l,CmSm x:=by
 obtain ⟨xs,hr,hN,hx⟩:=PG (n:=6) (SP H 1048576) Tryz.underlying22 (by kernel_rfl) hv h hG
 have hc:Tryz.prog.cellsOf 38=15:=by kernel_rfl
 obtain ⟨l,rfl,hl⟩:=xN (av:=Cmd.av) (Q:=CmSm) (P:=fun x=>x∈xs) (fun x hm=>by
  obtain ⟨cs,rfl⟩:=(hx x hm).2.1 (by kernel_rfl)
  obtain ⟨p,hp,hq⟩:=aFh (n:=0) (hx _ hm).1
  exact ⟨p,by unfold Cmd.av;rw [<-hp];rfl,hq⟩) xs fun x hm=>hm
 rw [hc] at hr
 exact ⟨l,hr,by simpa using hN,hl⟩
end
end Go.Proofs.YtpomiadgghchnaaGreat
