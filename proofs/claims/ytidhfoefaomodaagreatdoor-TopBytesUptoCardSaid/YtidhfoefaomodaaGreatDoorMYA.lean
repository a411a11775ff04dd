/- Part 10 of what the statement rests on. -/
import Derived.Test.YtidhfoefaomodaaGreatDoorRows
import Derived.Test.YtidhfoefaomodaaGreatDoorMDA
set_option linter.all false
set_option maxHeartbeats 1000000
open And renaming intro->Ae
open Bool renaming and_eq_true->Af,and_false->Bl,not_eq_true'->Df,or_eq_true->Fl,true_and->Bw
open Decidable renaming byContradiction->Lo,not_not->Fs
open Iff renaming rfl->Nq
open Int renaming le_refl->Dc,le_trans->Ds,mul_le_mul_of_nonneg_left->Kv,mul_nonneg->Lh,toNat_natCast->Br,toNat_of_nonneg->Ld
open List renaming Nodup->Lm,all_eq_true->Cb,any_eq_true->Ga,append_assoc->Ag,append_nil->Ar,cons_append->Bu,count_eq_zero->Li,count_le_length->Na,count_pos_iff->Lk,drop->Ht,drop_eq_getElem_cons->Aa,drop_eq_nil_of_le->Ab,drop_zero->Ap,eraseIdx_append_of_length_le->Jl,eraseIdx_eq_take_drop_succ->Gi,filter_cons->Hg,filter_cons_of_neg->Fc,filter_cons_of_pos->Gb,filter_eq_self->Gf,filter_sublist->Jb,foldl_append->Jt,foldl_cons->Bb,getElem?_eq_getElem->Ac,getElem_mem->Ax,length->Ko,length_append->Ai,length_cons->Ak,length_eq_zero_iff->Cv,length_eraseIdx->Kn,length_map->Cm,length_pos_iff->Eg,length_singleton->Mz,map_append->Bq,map_cons->Bj,map_drop->Jd,map_map->Ef,map_take->Gq,mem_append->Bd,mem_append_left->Cf,mem_append_right->Ct,mem_cons->Aw,mem_cons_of_mem->Av,mem_cons_self->Ao,mem_filter->Fm,mem_map->Ce,mem_map_of_mem->Cq,mem_range->Hx,mem_reverse->Hy,mem_singleton->Dp,mem_singleton_self->Jk,nodup_append->Cd,nodup_cons->Cl,nodup_nil->Hz,pairwise_cons->Ck,pairwise_map->Ge,pairwise_singleton->Jj,perm_append_comm->Ee,perm_middle->Ey,replicate->Aj,take->Ii,take_append_drop->Bv
open List.Pairwise renaming imp->Jq,nil->Lp
open List.Perm renaming append_left->Eb,append_right->Dz,refl->Jr,trans->Mt
open List.Sublist renaming refl->Ju
open List.cons renaming inj->Bg
open Nat renaming le_refl->Bh,le_succ->Ic,le_trans->Dh,mul_le_mul->Gs,sub_self->Mo,zero_add->Bx
open Option renaming isSome_iff_exists->Dl
namespace Go.Proofs.YtidhfoefaomodaaGreatDoor
open Go Go.AW Go.Proofs
set_option maxRecDepth 10000
def zqya0{P:Prop}(h:P:=by
 obtain ⟨k,c,g,n⟩:=x;dsimp only at a;subst a
 exact c_ Tryz.f134 λ_=>zW):P:=h
def zqya1{P:Prop}(h:P:=by
 refine cT (E:=E) (fn:=Tryz.f136) (g:=.full 1 _ _) λ_=>?_
 exact zW):P:=h
def zqya2{P:Prop}(h:P:=by
 have b:rav (s.run++[⟨p.g,p.seq,p.at',s.now,x.1,x.2⟩])=rav s.run++[Rn.av ⟨p.g,p.seq,p.at',s.now,x.1,x.2⟩]:=by simp
 unfold rdS rdO rdC ruV at a;dsimp only at a;rw [b] at a;generalize dZ s.pend p.g.id=pq at *
 clear b e;refine cT (E:=(Er [] [60,64,86,87,88])) (fn:=Tryz.f112) (g:=.full 3 _ _) λ_=>?_
 exact zW):P:=h
def zqya3{P:Prop}(h:P:=by
 refine cT (E:=(Er [] [39,40,59,60,61,62,63,64])) (fn:=Tryz.f52) (g:=.full 3 _ _) λ_=>?_
 exact zW):P:=h
def zqya4{P:Prop}(h:P:=by
 refine cT (E:=(Eo [6] [])) (fn:=Tryz.f139) (g:=.full 1 _ _) λ_=>?_
 exact zW):P:=h
def zqya5{P:Prop}(h:P:=by
 refine cT (E:=(Er [] [60,64,86,87,88])) (fn:=Tryz.f112) (g:=.full 3 _ _) λ_=>?_
 exact zW):P:=h
def zqya6{P:Prop}(h:P:=by
 intro i a o q b;rw [Ab o_] at b;have b:a++[]=R:=b;rw [Ar] at b;subst b;refine gV ?_
 exact zW):P:=h
def zqya7{P:Prop}(h:P:=by
 refine cT (E:=(Er [] [24,38])) (fn:=Tryz.f135) (g:=.full 1 _ _) λ_=>?_
 exact zW):P:=h
def zqya8{P:Prop}(h:P:=by
 rw [if_neg (by rw [c];decide)] at a;rw [c] at f;have next:=e a
 refine gV ?_
 exact zW):P:=h
def zqya9{P:Prop}(h:P:=by
 rw [d] at h;rw [pM d] at b;have next:=k (i+1) a o_ o_ b
 refine gV ?_
 exact zW):P:=h
def zqya10{P:Prop}(h:P:=by
 refine cT (E:=E) (fn:=Tryz.f137) (g:=.full 2 _ _) λ_=>?_
 exact zW):P:=h
def zqya11{P:Prop}(h:P:=by
 intro i h a;rw [Ab o_] at a;have a: -1=r:=a;subst a;refine gV ?_
 exact zW):P:=h
def zqya12{P:Prop}(h:P:=by exact c_ Tryz.f71 λ_=>zW):P:=h
def zqya13{P:Prop}(h:P:=by
 rw [if_pos c] at a;rw [c] at f;subst a;refine gV ?_
 exact zW):P:=h
def P0(l:bc)(h:l.length<=1048576):aq 104 [.slice 11 (nav l) .no] [] (.ret (.slice 11 (nav l) .no)) []:=by
 have a:(nav l).length=l.length:=by simp
 refine c_ Tryz.f104 λ_=>gV ?_;intro b c;refine gV ?_;refine ⟨λ h=>?_,λ h=>?_⟩
 .have h:b=true:=h;have e:nav l=[]:=c h;refine gV ?_;rw [e]
 .have h:b=false:=h;exact zW
def P1(l:List Hos)(h:l.length<=1048576):aq 105 [.slice 6 (hav l) .no] [] (.ret (.slice 6 (hav l) .no)) []:=by
 have a:(hav l).length=l.length:=by simp
 refine c_ Tryz.f105 λ_=>gV ?_;intro b c;refine gV ?_;refine ⟨λ h=>?_,λ h=>?_⟩
 .have h:b=true:=h;have e:hav l=[]:=c h;refine gV ?_;rw [e]
 .have h:b=false:=h;exact zW
def YE(l:a7)(h:l.length<=1048576):aq 106 [.slice 11 (pnv l) .no] [] (.ret (.slice 11 (pnv l) .no)) []:=by
 have a:(pnv l).length=l.length:=by simp
 refine c_ Tryz.f106 λ_=>gV ?_;intro b c;refine gV ?_;refine ⟨λ h=>?_,λ h=>?_⟩
 .have h:b=true:=h;have e:pnv l=[]:=c h;refine gV ?_;rw [e]
 .have h:b=false:=h;exact zW
def YF(l:az)(h:l.length<=1048576):aq 107 [.slice 1 (fv l) .no] [] (.ret (.slice 1 (fv l) .no)) []:=by
 have a:(fv l).length=l.length:=by simp
 refine c_ Tryz.f107 λ_=>gV ?_;intro b c;refine gV ?_;refine ⟨λ h=>?_,λ h=>?_⟩
 .have h:b=true:=h;have e:fv l=[]:=c h;refine gV ?_;rw [e]
 .have h:b=false:=h;exact zW
abbrev CU(l:a6):au:=[.row 0 14 107 (rav l)]
def aC8(l:a6)(hs:Sm l)(ids:ax)(hd:ids.length<=1048576)(R:a6):∀ (m i:Nat) (a:a6),i+m=l.length->a.length<=i->a++aH (l.drop i) ids=R->
  To (Er [5] []) fWo (.full 0 (.ret (.row 0 0)) (CU R)) (.head (stk fWo 0) [(1,.slice 1 (iv ids) .no),(5,.row 0 0),(8,.slice 14 (rav l) .no),(9,.int .i64 ((rav l).length:Nat)),(10,ii i)] (CU a)):=by
 have n:(rav l).length=l.length:=by simp
 have hl:=hs.1;intro m;induction m with
 | zero=>
  exact zqya6
 | succ m k=>
  intro i a o q b;have c:i<l.length:=o_;have j:=hs.at c;rw [Aa c] at b;generalize p:l[i]=x at b j;have get:(rav l)[i]? =some x.av:=(cF c).trans (by rw [p]);have r:(rav a).length=a.length:=by simp
  have h:=B4 ids hd x.g.id;cases d:inB x.g.id ids with
  | true=>
   exact zqya9
  | false=>
   rw [d] at h;rw [pL d] at b;have next:=k (i+1) (a++[x]) o_ q_ (by rw [Ag];exact b)
   have e:rav (a++[x])=rav a++[x.av]:=by simp
   unfold CU at next
   rw [e] at next
   refine gV ?_;have f:=E9 x j;exact zW
def aMd(l:a6)(hs:Sm l)(ids:ax)(hd:ids.length<=1048576):aq 108 [.slice 14 (rav l) .no,.slice 1 (iv ids) .no] [] (.ret (.row 0 0)) (CU (aH l ids)):=by have h1:=aC8 l hs ids hd _ l.length 0 [] o_ s_ rfl;refine cT (E:=(Er [5] [])) (fn:=Tryz.f108) (g:=.full 0 _ _) λ_=>?_;exact zW
def aHT(l:a6)(hs:Sm l):aq 108 [.slice 14 (rav l) .no,.nilslice] [] (.ret (.row 0 0)) (CU l):=by have h:=aMd l hs [] s_;rw [iK] at h;exact aA.nil2 h
abbrev RO:au:=[.tail 0 14 107]
def aDa(l:a6)(hs:Sm l)(ids:ax)(hd:ids.length<=1048576)(R:a6):∀ (m i:Nat) (a:a6),i+m=l.length->a.length<=i->a++aH (l.drop i) ids=R->
  To (Eo [5] []) fWo (.full 0 (.ret (.slice 14 (rav R) (.own 0 0))) RO) (.head (stk fWo 0) [(1,.slice 1 (iv ids) .no),(5,.slice 14 (rav a) (.own 0 0)),(8,.slice 14 (rav l) .no),(9,.int .i64 ((rav l).length:Nat)),(10,ii i)] RO):=by
 have n:(rav l).length=l.length:=by simp
 have hl:=hs.1;intro m;induction m with
 | zero=>
  exact zqya6
 | succ m k=>
  intro i a o q b;have c:i<l.length:=o_;have j:=hs.at c;rw [Aa c] at b;generalize p:l[i]=x at b j;have get:(rav l)[i]? =some x.av:=(cF c).trans (by rw [p]);have r:(rav a).length=a.length:=by simp
  have h:=B4 ids hd x.g.id;cases d:inB x.g.id ids with
  | true=>
   exact zqya9
  | false=>
   rw [d] at h;rw [pL d] at b;have next:=k (i+1) (a++[x]) o_ q_ (by rw [Ag];exact b)
   have e:rav (a++[x])=rav a++[x.av]:=by simp
   rw [e] at next
   refine gV ?_;have f:=E9 x j;exact zW
def aC9(l:a6)(hs:Sm l)(ids:ax)(hd:ids.length<=1048576):aq 108 [.slice 14 (rav l) .no,.slice 1 (iv ids) .no] [] (.ret (.slice 14 (rav (aH l ids)) (.own 0 0))) RO:=by have h1:=aDa l hs ids hd _ l.length 0 [] o_ s_ rfl;refine cT (E:=(Eo [5] [])) (fn:=Tryz.f108) (g:=.full 0 _ _) λ_=>?_;exact zW
def aHU(l:a6)(hs:Sm l):aq 108 [.slice 14 (rav l) .no,.nilslice] [] (.ret (.slice 14 (rav l) (.own 0 0))) RO:=by have h:=aC9 l hs [] s_;rw [iK] at h;exact aA.nil2 h
structure StaSm'(s:Sta):Prop where
 ns:s.c.ns.length<=1048576
 hs:s.c.hs.length<=1048576
 pend:s.pend.length<=1048576
 run:Sm s.run
 hist:s.hist.length<=1048576
def Sta.avR(s:Sta)(k g:Nat):aa:=.agg [.slice 11 (nav s.c.ns) .no,.slice 6 (hav s.c.hs) .no,ii s.c.half,ii s.c.age,ii s.now,ii s.nxt,.slice 11 (pnv s.pend) .no,.row k g,.slice 1 (fv s.hist) .no]
def Sta.avO(s:Sta)(k g:Nat):aa:=.agg [.slice 11 (nav s.c.ns) .no,.slice 6 (hav s.c.hs) .no,ii s.c.half,ii s.c.age,ii s.now,ii s.nxt,.slice 11 (pnv s.pend) .no,.slice 14 (rav s.run) (.own k g),.slice 1 (fv s.hist) .no]
def aLg(s:Sta)(h:StaSm' s):aq 50 [s.av] [] (.ret (s.avO 0 0)) RO:=by have h1:=P0 s.c.ns h.ns;have b:=P1 s.c.hs h.hs;have h3:=YE s.pend h.pend;have d:=YF s.hist h.hist;have a:=aHU s.run h.run;refine cT (E:=E) (fn:=Tryz.f50) (g:=.full 0 _ _) λ_=>?_;exact zW
def FC(s:Sta)(h:StaSm' s):aq 133 [s.av] [] (.ret (s.avR 0 0)) (CU s.run):=by have h1:=P0 s.c.ns h.ns;have b:=P1 s.c.hs h.hs;have h3:=YE s.pend h.pend;have d:=YF s.hist h.hist;have a:=aHT s.run h.run;refine cT (E:=E) (fn:=Tryz.f133) (g:=.full 0 _ _) λ_=>?_;exact zW
abbrev rdC(r:Rd)(run:aa)(ge:Nat):ay:=[.slice 11 (nav r.s.c.ns) .no,.slice 6 (hav r.s.c.hs) .no,ii r.s.c.half,ii r.s.c.age,ii r.s.now,ii r.s.nxt,.slice 11 (pnv r.s.pend) .no,run,.slice 1 (fv r.s.hist) .no,.slice 3 (evv r.ev) (.own 1 ge),.bool r.head,ii r.start]
abbrev rdO(r:Rd)(run:aa)(ge:Nat):ab:=.cells 111 (rdC r run ge)
abbrev evT(g:Nat):ab:=.tail g 3 41
abbrev ruT(g:Nat):ab:=.tail g 14 107
abbrev ruV(l:a6)(k g:Nat):aa:=.slice 14 (rav l) (.own k g)
abbrev rdS(r:Rd)(ge gr:Nat):au:=[rdO r (ruV r.s.run 2 gr) ge,evT ge,ruT gr]
def oI(r:Rd)(e:Ev):Rd:=⟨r.s,r.ev++[e],r.head,r.start⟩
def OS(r:Rd)(k id n:Int)(hl:r.ev.length<=1048576):aq 116 [.ref 0 0,ii k,ii id,ii n] (rdS r 0 0) (.ret (.tup [])) (rdS (oI r ⟨k,id,n⟩) 1 0):=by
 have a:(evv r.ev).length=r.ev.length:=by simp
 have e:evv (r.ev++[⟨k,id,n⟩])=evv r.ev++[Ev.av ⟨k,id,n⟩]:=by simp
 unfold oI;show aA _ _ _ _ _ [.cells _ [_,_,_,_,_,_,_,_,_,.slice 3 (evv (r.ev++[⟨k,id,n⟩])) (.own 1 1),_,_],_,_];rw [e];refine cT (E:=E) (fn:=Tryz.f116) (g:=.full 3 _ _) λ_=>?_;exact zW
def SI(r:Rd)(l:a6)(k id n:Int)(hl:r.ev.length<=1048576):aq 116 [.ref 0 0,ii k,ii id,ii n] [rdO r (.slice 14 (rav l) .no) 0,evT 0] (.ret (.tup [])) [rdO (oI r ⟨k,id,n⟩) (.slice 14 (rav l) .no) 1,evT 1]:=by
 have a:(evv r.ev).length=r.ev.length:=by simp
 have e:evv (r.ev++[⟨k,id,n⟩])=evv r.ev++[Ev.av ⟨k,id,n⟩]:=by simp
 unfold oI;show aA _ _ _ _ _ [.cells _ [_,_,_,_,_,_,_,_,_,.slice 3 (evv (r.ev++[⟨k,id,n⟩])) (.own 1 1),_,_],_];rw [e];refine cT (E:=E) (fn:=Tryz.f116) (g:=.full 2 _ _) λ_=>?_;exact zW
def lH{n a:Nat}(h:n<=1048576)(b:a<=1000):EY (n+1) a:=Ae (by simp only [maxLen];omega) (Dh (Gs (show n+1<=1048577 by omega) b) d_)
def aQB(r:Rd)(p:Pn)(a:aq 16 [r.s.c.av,.slice 14 (rav r.s.run) .no,p.g.av] [] (.ret (fdA none)) []):
  aq 112 [.ref 0 0,p.av] (rdS r 0 0) (.ret (.bool false)) (rdS r 0 0):=by
 obtain ⟨s,ev,head,start⟩:=r;exact zqya5
def aQD(s:Sta)(ev:bb)(start:Int)(p:Pn)(x:Int×ax)(a:aq 16 [s.c.av,.slice 14 (rav s.run) .no,p.g.av] [] (.ret (fdA (some x))) [])
  (hm:aq 17 [ii s.now,p.g.av,ii start] [] (.ret (.bool false)) []):
  aq 112 [.ref 0 0,p.av] (rdS ⟨s,ev,true,start⟩ 0 0) (.ret (.bool false)) (rdS ⟨s,ev,true,start⟩ 0 0):=by
 exact zqya5
set_option maxHeartbeats 1000000 in
def aQA(s:Sta)(ev:bb)(start:Int)(p:Pn)(x:Int×ax)(i:aq 16 [s.c.av,.slice 14 (rav s.run) .no,p.g.av] [] (.ret (fdA (some x))) [])(j:ev.length<=1000000)(hp:s.pend.length<=1000000)(d:(rav s.run).length<=1048576)
  (hm:aq 17 [ii s.now,p.g.av,ii start] [] (.ret (.bool true)) []):
  aq 112 [.ref 0 0,p.av] (rdS ⟨s,ev,true,start⟩ 0 0) (.ret (.bool true)) (rdS (U9 ⟨s,ev,true,start⟩ p x.1 x.2) 1 1):=by
 have e:U9 ⟨s,ev,true,start⟩ p x.1 x.2=oI ⟨{s with pend:=dZ s.pend p.g.id,run:=s.run++[⟨p.g,p.seq,p.at',s.now,x.1,x.2⟩]},ev,true,start⟩ ⟨1,p.g.id,x.1⟩:=rfl;have a:=OS ⟨{s with pend:=dZ s.pend p.g.id,run:=s.run++[⟨p.g,p.seq,p.at',s.now,x.1,x.2⟩]},ev,true,start⟩ 1 p.g.id x.1 (by show ev.length<=_;omega);have h:=vT s.pend p.g.id hp;rw [e];generalize oI ⟨{s with pend:=dZ s.pend p.g.id,run:=s.run++[⟨p.g,p.seq,p.at',s.now,x.1,x.2⟩]},ev,true,start⟩ ⟨1,p.g.id,x.1⟩=r2 at *
 exact zqya2
set_option maxHeartbeats 1000000 in
def aQC(s:Sta)(ev:bb)(start:Int)(p:Pn)(x:Int×ax)(d:aq 16 [s.c.av,.slice 14 (rav s.run) .no,p.g.av] [] (.ret (fdA (some x))) [])(j:ev.length<=1000000)(hp:s.pend.length<=1000000)(h:(rav s.run).length<=1048576):
  aq 112 [.ref 0 0,p.av] (rdS ⟨s,ev,false,start⟩ 0 0) (.ret (.bool true)) (rdS (U9 ⟨s,ev,false,start⟩ p x.1 x.2) 1 1):=by
 have hm:=d;have e:U9 ⟨s,ev,false,start⟩ p x.1 x.2=oI ⟨{s with pend:=dZ s.pend p.g.id,run:=s.run++[⟨p.g,p.seq,p.at',s.now,x.1,x.2⟩]},ev,false,start⟩ ⟨1,p.g.id,x.1⟩:=rfl;have a:=OS ⟨{s with pend:=dZ s.pend p.g.id,run:=s.run++[⟨p.g,p.seq,p.at',s.now,x.1,x.2⟩]},ev,false,start⟩ 1 p.g.id x.1 (by show ev.length<=_;omega);have i:=vT s.pend p.g.id hp;rw [e];generalize oI ⟨{s with pend:=dZ s.pend p.g.id,run:=s.run++[⟨p.g,p.seq,p.at',s.now,x.1,x.2⟩]},ev,false,start⟩ ⟨1,p.g.id,x.1⟩=r2 at *
 exact zqya2
def U8(r:Rd)(p:Pn)(k:r.s.c.sm)(hs:Sm r.s.run)(hp:r.s.pend.length<=1000000)(i:r.ev.length<=1000000)(j:0<=p.g.pods/\p.g.pods<=16):
  (admR r p=(r,false)/\aq 112 [.ref 0 0,p.av] (rdS r 0 0) (.ret (.bool false)) (rdS r 0 0))\/
  ((admR r p).2=true/\aq 112 [.ref 0 0,p.av] (rdS r 0 0) (.ret (.bool true)) (rdS (admR r p).1 1 1)):=by
 have b:(rav r.s.run).length<=1048576:=by simpa using hs.1
 have a:=xJ r.s.c k r.s.run hs p.g j;have hm:=aBi r.s.now p.g r.start;unfold admR;cases h:bM r.s.c r.s.run p.g with
 | none=>
  rw [h] at a;exact .inl ⟨rfl,aQB r p a⟩
 | some x=>
  rw [h] at a;obtain ⟨s,ev,head,start⟩:=r;cases head with
  | false=>exact .inr ⟨rfl,aQC s ev start p x a i hp b⟩
  | true=>
   cases d:bmB s.now p.g start with
   | false=>
    have e:xX ⟨s,ev,true,start⟩ p (some x)=(⟨s,ev,true,start⟩,false):=by unfold xX;exact if_pos (by rw [d];rfl)
    rw [e];dsimp only at hm;rw [d] at hm;exact .inl ⟨rfl,aQD s ev start p x a hm⟩
   | true=>
    have e:xX ⟨s,ev,true,start⟩ p (some x)=(U9 ⟨s,ev,true,start⟩ p x.1 x.2,true):=by unfold xX;exact if_neg (by rw [d];simp)
    rw [e];dsimp only at hm;rw [d] at hm;exact .inr ⟨rfl,aQA s ev start p x a i hp b hm⟩
def cK(id:Int)(x:Rn):Bool:=x.g.id==id
abbrev idF(n:Nat)(id:Int):aa:=.func (.func n) [] [.ptr [ii id]]
def W4(n:Nat)(id:Int)(d:∀ x:Rn,aA Tryz.prog n [x.av,.ptr [ii id]] [] (.ret (.bool (cK id x))) [])(l:a6)(hl:l.length<=1048576)(r:Int):∀ (m i:Nat),i+m=l.length->bA (cK id) (l.drop i) i=r->
  To E MQ (.pure (.ret (ii r))) (.head (stk MQ 0) [(0,.slice 14 (rav l) .no),(1,idF n id),(7,.int .i64 ((rav l).length:Nat)),(8,ii i)] []):=by
 have g:(rav l).length=l.length:=by simp
 intro m;induction m with
 | zero=>
  exact zqya11
 | succ m e=>
  intro i h a;have b:i<l.length:=o_;rw [Aa b] at a;have get:(rav l)[i]? =some l[i].av:=cF b;generalize l[i]=x at a get;unfold bA at a;have f:=d x;have e:=e (i+1) o_;cases c:cK id x with
  | true=>
   exact zqya13
  | false=>
   exact zqya8
def IC(n:Nat)(id:Int)(a:∀ x:Rn,aA Tryz.prog n [x.av,.ptr [ii id]] [] (.ret (.bool (cK id x))) [])(l:a6)(hl:l.length<=1048576):aq 172 [.slice 14 (rav l) .no,idF n id] [] (.ret (ii (bA (cK id) l 0))) []:=by refine c_ Tryz.f172 λ_=>gV ?_;exact To.cut [0,1,7,8] 0 rfl rfl rfl rfl (W4 n id a l hl _ l.length 0 o_ rfl)
def aAX(id:Int)(x:Rn):aq 179 [x.av,.ptr [ii id]] [] (.ret (.bool (cK id x))) []:=by unfold cK;exact c_ Tryz.f179 λ_=>zW
def LF(id:Int)(x:Rn):aq 254 [x.av,.ptr [ii id]] [] (.ret (.bool (cK id x))) []:=by unfold cK;exact c_ Tryz.f254 λ_=>zW
def sC(p:Rn->Bool):∀ (l:a6) (i:Nat),bA p l i= -1\/((i:Int)<=bA p l i/\bA p l i<(i:Int)+l.length)
 | [],i=>.inl rfl
 | x::l,i=>by
  unfold bA;by_cases h:p x=true
  .rw [if_pos h];right;simp;omega
  .rw [if_neg h];rcases sC p l (i+1) with a | a
   .exact .inl a
   .right;simp;omega
noncomputable abbrev fEv:Func:=Tryz.f114
abbrev evF(ids:ax)(i:Nat):ar:=[(0,.ref 0 0),(1,.slice 1 (iv ids) .no),(8,.slice 1 (iv ids) .no),(9,.int .i64 ((iv ids).length:Nat)),(10,ii i)]
abbrev evD(Q:Rd)(run:a6)(ids:ax):Rd:=⟨{Q.s with run:=aH run ids},Q.ev,Q.head,Q.start⟩
abbrev evG(Q:Rd)(run:a6)(ids:ax)(g:Nat):Goal:=.full 2 (.ret (.tup [])) [rdO (evD Q run ids) (ruV (aH run ids) 2 0) g,evT g,ruT 0]
abbrev evB(q:Rd)(run:a6)(g:Nat):au:=[rdO q (.slice 14 (rav run) .no) g,evT g]
def HB(l:a7)(p:Pn):(nA l p).length=l.length+1:=by unfold nA;rw [Ai,Ai,Mz];have:=congrArg Ko (Bv (Q2.putAt p.q (l.map Pn.q)) l);rw [Ai] at this;omega
set_option maxHeartbeats 1000000 in
def aKB(run:a6)(hs:Sm run)(ids:ax)(hd:ids.length<=1048576)(f:∀ id∈ids,0<=bA (cK id) run 0)(Q:Rd):∀ (m i:Nat) (q:Rd),i+m=ids.length->(ids.drop i).foldl (dQ run) q=Q->q.s.pend.length+m<=1000000->q.ev.length+m<=1000000->
  To E fEv (evG Q run ids 1) (.head (stk fEv 0) (evF ids i) (evB q run 1)):=by
 intro m;induction m with
 | zero=>
  intro i q r b hp z;rw [Ab o_] at b;have b:q=Q:=b;subst b;have B:=aC9 run hs ids hd;have n:(iv ids).length=ids.length:=by simp
  have t:evG q run ids 1= .full 2 (.ret (.tup [])) [rdO q (ruV (aH run ids) 2 0) 1,evT 1,ruT 0]:=rfl;rw [t];generalize aH run ids=rn at *
  refine gV ?_;exact zW
 | succ m v=>
  intro i q r b hp z;have d:i<ids.length:=o_;rw [Aa d,Bb] at b;have o:=f _ (Ax d);have get:(iv ids)[i]? =some (ii ids[i]):=by simp [d]
  generalize ids[i]=id at b o get;have h1:=IC _ id (aAX id) run hs.1
  obtain ⟨at',c⟩:∃ a:Nat,bA (cK id) run 0=(a:Int):=⟨(bA (cK id) run 0).toNat,by omega⟩
  have k:at'<run.length:=by
   rcases sC (cK id) run 0 with h | h
   .omega
   .rw [c] at h;omega
  have A:=jX k;have j:dQ run q id=oI ⟨{q.s with pend:=nA q.s.pend (bB run at').pn},q.ev,q.head,q.start⟩ ⟨2,id,0⟩:=by
   have e:(bA (λ x=>x.g.id==id) run 0).toNat=at':=by have p:bA (cK id) run 0=at':=c;have w:bA (λ x=>x.g.id==id) run 0=bA (cK id) run 0:=rfl;rw [w,p];rfl
   unfold dQ;rw [e];rfl
  rw [j] at b;rw [c] at h1;have u:=OI q.s.pend (bB run at').pn o_;have h3:=SI ⟨{q.s with pend:=nA q.s.pend (bB run at').pn},q.ev,q.head,q.start⟩ run 2 id 0 (by show q.ev.length<=_;omega);have next:=v (i+1) (oI ⟨{q.s with pend:=nA q.s.pend (bB run at').pn},q.ev,q.head,q.start⟩ ⟨2,id,0⟩) o_ b (by show (nA _ _).length+m<=_;rw [HB];omega) (by show (q.ev++[_]).length+m<=_;simp;omega)
  generalize oI ⟨{q.s with pend:=nA q.s.pend (bB run at').pn},q.ev,q.head,q.start⟩ ⟨2,id,0⟩=q2 at *
  generalize nA q.s.pend (bB run at').pn=pq at *
  have l:(bB run at').pn=⟨(bB run at').g,(bB run at').seq,(bB run at').at'⟩:=rfl;rw [l] at u;generalize bB run at'=x at *
  have n:(iv ids).length=ids.length:=by simp
  have y:(rav run).length=run.length:=by simp
  clear j b f;refine gV ?_;exact zW
set_option maxHeartbeats 1000000 in
def aGu(r:Rd)(run:a6)(c:r.s.run=run)(hs:Sm run)(ids:ax)(hd:ids.length<=1048576)(v:ids≠[])(n:∀ id∈ids,0<=bA (cK id) run 0)(hp:r.s.pend.length+ids.length<=1000000)(L:r.ev.length+ids.length<=1000000):
  aq 114 [.ref 0 0,.slice 1 (iv ids) .no] (evB r run 0) (.ret (.tup [])) [rdO (nG r ids) (ruV (nG r ids).s.run 2 0) 1,evT 1,ruT 0]:=by
 have z:nG r ids=evD (ids.foldl (dQ run) r) run ids:=by rw [<-c];rfl
 rw [z]
 obtain ⟨Q,j⟩:∃ Q,(ids.drop 0).foldl (dQ run) r=Q:=⟨_,rfl⟩
 have o:ids.foldl (dQ run) r=Q:=j;rw [o];have ev:=aKB run hs ids hd n Q;have p:0<ids.length:=Eg.2 v
 obtain ⟨m,hm⟩:∃ m,ids.length=m+1:=⟨ids.length-1,by omega⟩
 have D:(0:Nat)=0:=rfl;have key:To E fEv (evG Q run ids 1) (.head (stk fEv 0) (evF ids 0) (evB r run 0)):=by
  have hp:r.s.pend.length+(m+1)<=1000000:=o_;have L:r.ev.length+(m+1)<=1000000:=o_;have C:0+(m+1)=ids.length:=o_;clear o z c
  obtain ⟨i,k⟩:∃ i:Nat,i=0:=⟨_,rfl⟩
  have b:∀ q,q=r->To E fEv (evG Q run ids 1) (.head (stk fEv 0) (evF ids i) (evB q run 0)):=by
   intro q F;subst F;rw [<-k] at j C;have H:=λ q=>ev m (i+1) q o_;clear D ev k p;have l:i<ids.length:=o_;rw [Aa l,Bb] at j;have y:=n _ (Ax l);have get:(iv ids)[i]? =some (ii ids[i]):=by simp [l]
   generalize ids[i]=id at j y get;have h1:=IC _ id (aAX id) run hs.1
   obtain ⟨at',d⟩:∃ a:Nat,bA (cK id) run 0=(a:Int):=⟨(bA (cK id) run 0).toNat,by omega⟩
   have u:at'<run.length:=by
    rcases sC (cK id) run 0 with h | h
    .omega
    .rw [d] at h;omega
   have M:=jX u;have t:dQ run q id=oI ⟨{q.s with pend:=nA q.s.pend (bB run at').pn},q.ev,q.head,q.start⟩ ⟨2,id,0⟩:=by
    have e:(bA (λ x=>x.g.id==id) run 0).toNat=at':=by have B:bA (cK id) run 0=at':=d;have J:bA (λ x=>x.g.id==id) run 0=bA (cK id) run 0:=rfl;rw [J,B];rfl
    unfold dQ;rw [e];rfl
   rw [t] at j;rw [d] at h1;have G:=OI q.s.pend (bB run at').pn o_;have h3:=SI ⟨{q.s with pend:=nA q.s.pend (bB run at').pn},q.ev,q.head,q.start⟩ run 2 id 0 (by show q.ev.length<=_;omega);have next:=H (oI ⟨{q.s with pend:=nA q.s.pend (bB run at').pn},q.ev,q.head,q.start⟩ ⟨2,id,0⟩)  j (by show (nA _ _).length+m<=_;rw [HB];omega) (by show (q.ev++[_]).length+m<=_;simp;omega)
   generalize oI ⟨{q.s with pend:=nA q.s.pend (bB run at').pn},q.ev,q.head,q.start⟩ ⟨2,id,0⟩=q2 at *
   generalize nA q.s.pend (bB run at').pn=pq at *
   have w:(bB run at').pn=⟨(bB run at').g,(bB run at').seq,(bB run at').at'⟩:=rfl;rw [w] at G;generalize bB run at'=x at *
   have I:(iv ids).length=ids.length:=by simp
   have K:(rav run).length=run.length:=by simp
   clear t j n;refine gV ?_;exact zW
  rw [k] at b;exact b r rfl
 refine cT (E:=E) (fn:=Tryz.f114) (g:=.full 2 _ _) λ_=>?_;exact zW
abbrev aC0(r:Rd)(p:Pn)(b:Bool)(O:au):Prop:=aq 112 [.ref 0 0,p.av] (rdS r 0 0) (.ret (.bool b)) O
abbrev A6(r:Rd)(p:Pn)(O:au):Prop:=aq 52 [.ref 0 0,p.av] (rdS r 0 0) (.ret (.tup [])) O
abbrev aOq(r:Rd)(p:Pn)(Q:Option ax):Prop:=aq 113 [r.s.c.av,.slice 14 (rav r.s.run) .no,p.g.av] [] (.ret (chR Q)) []
abbrev aOU(r:Rd)(p:Pn)(Q:Option Int):Prop:=aq 115 [r.s.c.av,ii r.s.now,.slice 14 (rav r.s.run) .no,p.g.av] [] (.ret (stA Q)) []
def A7(r R:Rd)(p:Pn)(h1:aC0 r p true (rdS R 1 1)):A6 r p (rdS R 1 1):=by exact zqya3
def aPj(s:Sta)(ev:bb)(st:Int)(p:Pn)(h1:aC0 ⟨s,ev,true,st⟩ p false (rdS ⟨s,ev,true,st⟩ 0 0)):A6 ⟨s,ev,true,st⟩ p (rdS ⟨s,ev,true,st⟩ 0 0):=by exact zqya3
set_option maxHeartbeats 1000000 in
def aPi(s:Sta)(ev:bb)(p:Pn)(h1:aC0 ⟨s,ev,false,0⟩ p false (rdS ⟨s,ev,false,0⟩ 0 0))(a:aOq ⟨s,ev,false,0⟩ p none)(h3:aOU ⟨s,ev,false,0⟩ p none):A6 ⟨s,ev,false,0⟩ p (rdS ⟨s,ev,false,0⟩ 0 0):=by exact zqya3
set_option maxHeartbeats 1000000 in
def aPh(s:Sta)(ev:bb)(st:Int)(p:Pn)(n:Int)(c:ev.length<=1000000)(h1:aC0 ⟨s,ev,false,st⟩ p false (rdS ⟨s,ev,false,st⟩ 0 0))(b:aOq ⟨s,ev,false,st⟩ p none)(h3:aOU ⟨s,ev,false,st⟩ p (some n)):A6 ⟨s,ev,false,st⟩ p (rdS ⟨s,ev++[⟨4,p.g.id,n⟩],true,n⟩ 1 0):=by
 have a:=OS ⟨s,ev,true,n⟩ 4 p.g.id n (by show ev.length<=_;omega);unfold oI at a;dsimp only at a;generalize ev++[⟨4,p.g.id,n⟩]=ev2 at *
 refine cT (E:=(Er [] [39,40,59,60,61,62,63,64])) (fn:=Tryz.f52) (g:=.full 3 _ _) λ_=>?_
 repeat' first | (refine gN (hEr [] [39,40,59,60,61,62,63,64]) ?_;conv=>whnf) | refine .eff [] [0,1,2] _ _ rfl h1 ?_ | refine .pure _ [] b ?_ | refine .pure _ [] h3 ?_ | refine .sole rfl (.eff [] [0,1,2] _ _ rfl a ?_) | exact rfl | refine zt ?_ | refine zu ?_ ?_ | intro h | fail
 refine ⟨[],[0,1,2],⟨rfl,rfl⟩,rfl,rfl⟩
abbrev aQt(r:Rd)(ids:ax)(R:Rd):Prop:=aq 114 [.ref 0 0,.slice 1 (iv ids) .no] (evB r r.s.run 0) (.ret (.tup [])) [rdO R (ruV R.s.run 2 0) 1,evT 1,ruT 0]
set_option maxHeartbeats 2000000 in
def HY(s:Sta)(ev:bb)(st:Int)(p:Pn)(ids:ax)(R:Rd)(h1:aC0 ⟨s,ev,false,st⟩ p false (rdS ⟨s,ev,false,st⟩ 0 0))(j:aOq ⟨s,ev,false,st⟩ p (some ids))(h3:aQt ⟨s,ev,false,st⟩ ids R)
  (c:Rd) (b:Bool) (d a:Nat) (i:aC0 R p b (rdS c d a)) (e:d=0/\a=0\/d=1/\a=1):A6 ⟨s,ev,false,st⟩ p [rdO c (ruV c.s.run 3 0) 1,evT 1,ruT 0,ruT 0]:=by
 rcases e with ⟨rfl,rfl⟩ | ⟨rfl,rfl⟩
 all_goals
  refine cT (E:=(Er [] [39,40,59,60,61,62,63,64])) (fn:=Tryz.f52) (g:=.full 3 _ _) λ_=>?_
  repeat' first | (refine gN (hEr [] [39,40,59,60,61,62,63,64]) ?_;conv=>whnf) | refine .eff [] [0,1,2] _ _ rfl h1 ?_ | refine .pure _ [] j ?_ | refine .eff [] [0,1] _ _ rfl h3 ?_ | refine .eff [] [0,1,4] _ _ rfl i ?_ | exact rfl | refine zt ?_ | refine zu ?_ ?_ | intro h | fail
  refine ⟨[],[0,1,2,4],⟨rfl,rfl⟩,rfl,rfl⟩
def F3(r:Rd)(p:Pn):Prop:=
 (bU r p=r/\A6 r p (rdS r 0 0))\/A6 r p (rdS (bU r p) 1 1)\/A6 r p (rdS (bU r p) 1 0)\/A6 r p [rdO (bU r p) (ruV (bU r p).s.run 3 0) 1,evT 1,ruT 0,ruT 0]
noncomputable abbrev aPC:Func:=Tryz.f14
abbrev uT:ab:=.cells 31 [.slice 11 [] .nil,.slice 6 [] .nil,ii 0,ii 0,ii 0,ii 0,.slice 11 [] .nil,.slice 14 [] .nil,.slice 1 [] .nil]
abbrev aQh(L:a7)(i:Nat):ar:=[(2,.ref 3 0),(4,.ref 0 0),(12,.slice 11 (pnv L) .no),(13,.int .i64 ((pnv L).length:Nat)),(14,ii i)]
abbrev aQg(r:Rd):au:=[rdO r (ruV r.s.run 2 0) 0,evT 0,ruT 0,uT]
set_option maxHeartbeats 1000000 in
def aEc(b:Rd->a7->Prop)(l:∀ r p rest,b r (p::rest)->F3 r p/\b (bU r p) rest)(L:a7)(n:L.length<=1000000)(R:Rd):∀ (m i:Nat) (r:Rd),i+m=L.length->(L.drop i).foldl bU r=R->b r (L.drop i)->
  To E aPC (.pure (.ret (.tup [R.s.av,.slice 3 (evv R.ev) .no]))) (.head (stk aPC 0) (aQh L i) (aQg r)):=by
 have g:(pnv L).length=L.length:=by simp
 intro m;induction m with
 | zero=>
  intro i r j a _;rw [Ab o_] at a;have a:r=R:=a;subst a;refine gV ?_;refine aF λ h=>?_;refine dF hE 2 ?_;conv=>whnf
  refine To.permAt hE [0,1,2,3,4,5,6,7,9] [8] (by rfl) ?_;conv=>whnf
  refine aL ?_;refine aL ?_;exact zW
 | succ m k=>
  intro i r j a d;have c:i<L.length:=o_;rw [Aa c] at a d;rw [Bb] at a;obtain ⟨h1,f⟩:=l _ _ _ d;have get:=OK c;generalize L[i]=p at a d h1 f get;have next:=k (i+1) (bU r p) o_ a f
  rcases h1 with ⟨e,hl⟩ | hl | hl | hl
  .rw [e] at next
   refine gV ?_;exact zW
  .generalize bU r p=r2 at *
   refine gV ?_;exact zW
  .generalize bU r p=r2 at *
   refine gV ?_;exact zW
  .generalize bU r p=r2 at *
   refine gV ?_;refine aT λ h=>?_
   repeat' first | (refine gN hE ?_;conv=>whnf) | refine ⟨i,rfl,?_⟩ | refine ⟨_,get,?_⟩ | refine .eff [] [0,1,2] _ _ rfl hl ?_ | exact rfl | refine zt ?_ | refine zu ?_ ?_ | intro h | fail
   refine To.part [2,4,12,13,14] [0,1,5,3] rfl rfl rfl ?_;exact next
def aLb(a:Rd->a7->Prop)(e:∀ r p rest,a r (p::rest)->F3 r p/\a (bU r p) rest)(s:Sta)(h:StaSm' s)(L:a7)(b:L.length<=1000000)(hs:aq 51 [s.av] [] (.ret (.slice 11 (pnv L) .no)) [])(c:a ⟨s,[],false,0⟩ L):
  aq 14 [s.av] [] (.ret (.tup [(L.foldl bU ⟨s,[],false,0⟩).s.av,.slice 3 (evv (L.foldl bU ⟨s,[],false,0⟩).ev) .no])) []:=by
 have h1:=aEc a e L b _ L.length 0 ⟨s,[],false,0⟩ o_ rfl c;have d:=aLg s h;rw [Ap] at h1;generalize L.foldl bU ⟨s,[],false,0⟩=R at *
 refine c_ Tryz.f14 λ_=>?_
 repeat' first | (refine gN hE ?_;conv=>whnf) | refine .pure _ _ d ?_ | refine .pure _ [] hs ?_ | exact rfl | refine zt ?_ | refine zu ?_ ?_ | intro h | fail
 refine To.begin 3 9 41 rfl rfl ?_;refine To.part [2,4,12,13,14] [3,4,2,1] rfl rfl rfl ?_;exact h1
def FU(run:a6):∀ (ids:ax) (r:Rd),(ids.foldl (dQ run) r).s.c=r.s.c/\(ids.foldl (dQ run) r).s.now=r.s.now/\(ids.foldl (dQ run) r).s.nxt=r.s.nxt/\(ids.foldl (dQ run) r).s.hist=r.s.hist/\(ids.foldl (dQ run) r).s.run=r.s.run/\(ids.foldl (dQ run) r).head=r.head/\(ids.foldl (dQ run) r).start=r.start/\(ids.foldl (dQ run) r).s.pend.length=r.s.pend.length+ids.length/\(ids.foldl (dQ run) r).ev.length=r.ev.length+ids.length
 | [],r=>⟨rfl,rfl,rfl,rfl,rfl,rfl,rfl,rfl,rfl⟩
 | id::ids,r=>by
  obtain ⟨a,b,c,d,e,f,g,h,i⟩:=FU run ids (dQ run r id);have h1:(dQ run r id).s.pend.length=r.s.pend.length+1:=HB _ _;have j:(dQ run r id).ev.length=r.ev.length+1:=by show (r.ev++[_]).length=_;simp
  rw [Bb];refine ⟨a,b,c,d,e,f,g,?_,?_⟩
  .rw [h,h1,Ak];omega
  .rw [i,j,Ak];omega
structure LookPre(r:Rd)(p:Pn):Prop where
 c:r.s.c.sm
 run:Sm r.s.run
 pend:r.s.pend.length<=900000
 ev:r.ev.length<=900000
 pods:0<=p.g.pods/\p.g.pods<=16
 start:r.head=false->r.start=0
 cho:bM r.s.c r.s.run p.g=none->∀ ids,gM r.s.c r.s.run p.g=some ids->ids≠[]/\ids.length<=100000/\∀ id∈ids,0<=bA (cK id) r.s.run 0
def aFu(r:Rd)(p:Pn)(h:LookPre r p):F3 r p:=by
 have hd:=h.pend;have i:=h.ev;rcases U8 r p h.c h.run o_ o_ h.pods with ⟨e,f⟩ | ⟨e,f⟩
 .have o:(admR r p).2=false:=by rw [e]
  obtain ⟨s,ev,head,start⟩:=r;cases head with
  | true=>
   have a:bU ⟨s,ev,true,start⟩ p=⟨s,ev,true,start⟩:=by unfold bU;rw [if_neg (by rw [o];decide),if_pos rfl]
   exact .inl ⟨a,aPj s ev start p f⟩
  | false=>
   have a:bU ⟨s,ev,false,start⟩ p=LR ⟨s,ev,false,start⟩ p (gM s.c s.run p.g):=by unfold bU;rw [if_neg (by rw [o];decide),if_neg (show ¬ false=true by decide)]
   have b:=aCQ s.c h.c s.run h.run p.g h.pods;have d:=h.cho;dsimp only at d;cases m:gM s.c s.run p.g with
   | none=>
    rw [m] at b a;have hst:=aDR s.c h.c s.now s.run h.run p.g h.pods;have a:bU ⟨s,ev,false,start⟩ p=rL ⟨s,ev,false,start⟩ p (vI s.c s.now s.run p.g):=a;cases hs:vI s.c s.now s.run p.g with
    | none=>
     rw [hs] at hst a;have w:start=0:=h.start rfl;subst w;exact .inl ⟨a,aPi s ev p f b hst⟩
    | some n=>
     rw [hs] at hst a;have a:bU ⟨s,ev,false,start⟩ p=⟨s,ev++[⟨4,p.g.id,n⟩],true,n⟩:=a;refine .inr (.inr (.inl ?_));rw [a];exact aPh s ev start p n (by dsimp only at i;omega) f b hst
   | some ids=>
    rw [m] at b a;have l:bM s.c s.run p.g=none:=by
     have u:(xX ⟨s,ev,false,start⟩ p (bM s.c s.run p.g)).2=false:=o;cases B:bM s.c s.run p.g with
     | none=>rfl
     | some x=>rw [B] at u;have H:true=false:=u;cases H
    obtain ⟨D,I,y⟩:=d l ids m;have a:bU ⟨s,ev,false,start⟩ p=(admR (nG ⟨s,ev,false,start⟩ ids) p).1:=a;have t:=aGu ⟨s,ev,false,start⟩ s.run rfl h.run ids o_ D y (by dsimp only at hd⊢;omega) (by dsimp only at i⊢;omega);obtain ⟨G,_,_,_,J,_,_,A,F⟩:=FU s.run ids ⟨s,ev,false,start⟩;have k:(nG ⟨s,ev,false,start⟩ ids).s.c=s.c:=G;have q:(nG ⟨s,ev,false,start⟩ ids).s.run=aH s.run ids:=rfl;have C:(nG ⟨s,ev,false,start⟩ ids).s.pend.length=s.pend.length+ids.length:=A;have z:(nG ⟨s,ev,false,start⟩ ids).ev.length=ev.length+ids.length:=F;refine .inr (.inr (.inr ?_));rw [a];generalize nG ⟨s,ev,false,start⟩ ids=R at *
    dsimp only at hd i;rcases U8 R p (by rw [k];exact h.c) (by rw [q];exact sP h.run ids) o_ o_ h.pods with ⟨v,j⟩ | ⟨v,j⟩
    .rw [v];exact HY s ev start p ids R f b t R false 0 0 j (.inl ⟨rfl,rfl⟩)
    .exact HY s ev start p ids R f b t (admR R p).1 true 1 1 j (.inr ⟨rfl,rfl⟩)
 .have a:bU r p=(admR r p).1:=by unfold bU;rw [if_pos e]
  refine .inr (.inl ?_);rw [a];exact A7 r (admR r p).1 p f
def CV(l:a7)(p:Pn):(nA l p).Perm (p::l):=by
 unfold nA;have h:=Bv (Q2.putAt p.q (l.map Pn.q)) l;generalize Ii (Q2.putAt p.q (l.map Pn.q)) l=A at *
 generalize Ht (Q2.putAt p.q (l.map Pn.q)) l=B at *
 rw [<-h,Ag];exact Ey
def IB(a:Int):∀ (l:a7) (i:Nat),((∀ p∈l,p.g.id≠a)/\Q2.idx (λ x=>x.id==a) (l.map Pn.q) i= -1)\/∃ A p B,l=A++p::B/\p.g.id=a/\Q2.idx (λ x=>x.id==a) (l.map Pn.q) i=((i+A.length:Nat):Int)
 | [],i=>.inl ⟨λ p hp=>(by cases hp),rfl⟩
 | p::l,i=>by
  rw [Bj];unfold Q2.idx;by_cases h:p.g.id=a
  .right;refine ⟨[],p,l,rfl,h,?_⟩;have e:(p.q.id==a)=true:=by show (p.g.id==a)=true;rw [h];simp
   simp [e]
  .have e:(p.q.id==a)=false:=by show (p.g.id==a)=false;simpa using h
   simp only [e];rcases IB a l (i+1) with ⟨h1,c⟩ | ⟨A,x,B,h1,c,h3⟩
   .left;refine ⟨λ q b=>?_,c⟩;rcases Aw.1 b with rfl | b
    .exact h
    .exact h1 q b
   .right;refine ⟨p::A,x,B,by rw [h1];rfl,c,?_⟩;refine h3.trans ?_;rw [Ak];congr 1;omega
def FT(a:Int)(l:a7):((∀ p∈l,p.g.id≠a)/\lU a l= -1)\/∃ A p B,l=A++p::B/\p.g.id=a/\lU a l=(A.length:Int):=by have h:=IB a l 0;simp only [Bx] at h;exact h
def yL{l:a7}{p:Pn}(hp:p∈l)(f:(l.map λ x=>x.g.id).Nodup):(p::dZ l p.g.id).Perm l/\∀ q∈l,q≠p->q∈dZ l p.g.id:=by
 rcases FT p.g.id l with ⟨h,_⟩ | ⟨A,x,B,h1,i,h3⟩
 .exact absurd rfl (h p hp)
 .have j:x=p:=by
   subst h1;rw [Bq,Bj,Cd] at f;obtain ⟨_,d,c⟩:=f;rw [Cl] at d;rcases Bd.1 hp with hp | hp
   .exact absurd i.symm (c _ (Cq hp) _ (Ao ..))
   .rcases Aw.1 hp with hp | hp
    .exact hp.symm
    .exact absurd (i▸Cq hp) d.1
  subst j;have e:dZ l x.g.id=A++B:=by unfold dZ;rw [if_neg o_,h3,h1];show (A++x::B).eraseIdx A.length=_;rw [Jl (Bh _),Mo];rfl
  rw [e];refine ⟨by rw [h1];exact Ey.symm,λ q a b=>?_⟩;rw [h1] at a;rcases Bd.1 a with a | a
  .exact Cf _ a
  .rcases Aw.1 a with a | a
   .exact absurd a b
   .exact Ct _ a
def IM{id:Int}(l:a6):∀ (i:Nat) (x:Rn),x∈l->x.g.id=id->0<=bA (cK id) l i:=by
 induction l with
 | nil=>intro i x a;cases a
 | cons y l c=>
  intro i x a h;unfold bA;by_cases b:cK id y=true
  .rw [if_pos b];omega
  .rw [if_neg b];rcases Aw.1 a with e | a
   .exact absurd (by unfold cK;rw [<-e];simpa using h) b
   .exact c (i+1) x a h
def aCp{id:Int}(l:a6):∀ (i:Nat),0<=bA (cK id) l i->bB l (bA (cK id) l i-i).toNat∈l/\(bB l (bA (cK id) l i-i).toNat).g.id=id:=by
 induction l with
 | nil=>intro i h;have h:(0:Int)<= -1:=h;omega
 | cons y l c=>
  intro i h;unfold bA at h⊢;by_cases a:cK id y=true
  .rw [if_pos a];have e:((i:Int)-i).toNat=0:=o_;rw [e];unfold cK at a;exact ⟨Ao ..,(by simpa using a:y.g.id=id)⟩
  .rw [if_neg a] at h⊢;obtain ⟨h1,b⟩:=c (i+1) h;rcases sC (cK id) l (i+1) with h3 | h3
   .omega
   .have e:(bA (cK id) l (i+1)-i).toNat=(bA (cK id) l (i+1)-((i+1:Nat):Int)).toNat+1:=o_;rw [e];exact ⟨Av _ h1,b⟩
def xOf(run:a6)(id:Int):Rn:=bB run (bA (cK id) run 0).toNat
def nZ{run:a6}{id:Int}(h:0<=bA (cK id) run 0):xOf run id∈run/\(xOf run id).g.id=id:=by have a:=aCp run 0 h;have e:(bA (cK id) run 0-((0:Nat):Int)).toNat=(bA (cK id) run 0).toNat:=o_;rw [e] at a;exact a
def MJ(run:a6):∀ (ids:ax) (r:Rd),(ids.foldl (dQ run) r).s.pend.Perm (ids.map (λ id=>(xOf run id).pn)++r.s.pend)
 | [],r=>Jr _
 | id::ids,r=>by rw [Bb,Bj];refine (MJ run ids (dQ run r id)).trans ?_;have h:(dQ run r id).s.pend=nA r.s.pend (xOf run id).pn:=rfl;rw [h];refine (Eb _ (CV _ _)).trans ?_;exact Ey
def aE4{l:a6}(h:NH l):(l.map λ x=>x.g.id).Nodup:=by unfold Lm;rw [Ge];exact Jq (λ h=>h.1) h
def R8{run:a6}(k:NH run){ids:ax}(l:ids.Nodup)(c:∀ id∈ids,0<=bA (cK id) run 0):(ids.map (xOf run)++aH run ids).Perm run:=by
 have d:run.Nodup:=Jq (λ h e=>h.1 (by rw [e])) k;have h1:(ids.map (xOf run)).Nodup:=by unfold Lm;rw [Ge];refine List.Pairwise.imp_of_mem (λ{a b} j i hab e=>hab ?_) l;rw [<-(nZ (c a j)).2,<-(nZ (c b i)).2,e]
 have m:(aH run ids).Nodup:=d.sublist Jb;refine (List.perm_ext_iff_of_nodup ?_ d).2 λ x=>?_
 .refine Cd.2 ⟨h1,m,λ a j b i e=>?_⟩;obtain ⟨id,hid,rfl⟩:=Ce.1 j;subst e;exact (mW.1 i).2 (by rw [(nZ (c id hid)).2];exact hid)
 .constructor
  .intro h;rcases Bd.1 h with h | h
   .obtain ⟨id,hid,rfl⟩:=Ce.1 h;exact (nZ (c id hid)).1
   .exact (mW.1 h).1
  .intro h;by_cases f:x.g.id∈ids
   .refine Cf _ (Ce.2 ⟨x.g.id,f,?_⟩);exact aJe k (nZ (c _ f)).1 h (nZ (c _ f)).2
   .exact Ct _ (mW.2 ⟨h,f⟩)
structure Base(s:Sta):Prop where
 c:s.c.sm
 ids:((s.pend++s.run.map Rn.pn).map λ x=>x.g.id).Nodup
 seqs:((s.pend++s.run.map Rn.pn).map λ x=>x.seq).Nodup
 few:(s.pend++s.run.map Rn.pn).length<=39
 gang:∀ x∈s.pend++s.run.map Rn.pn,(0<=x.g.pods/\x.g.pods<=16)/\bH x.g.need=true/\x.g.id≠0
structure ai(s:Sta)(r:Rd)(rest:a7):Prop where
 c:r.s.c=s.c
 now:r.s.now=s.now
 nxt:r.s.nxt=s.nxt
 hist:r.s.hist=s.hist
 perm:(r.s.pend++r.s.run.map Rn.pn).Perm (s.pend++s.run.map Rn.pn)
 sub:∀ p∈rest,p∈r.s.pend
 rn:rest.Nodup
 start:r.head=false->r.start=0
 hs:∀ x∈r.s.run,x.hs.length<=1048576
def ai.few{s:Sta}{r:Rd}{rest:a7}(b:Base s)(h:ai s r rest):r.s.pend.length+r.s.run.length<=39:=by have:=h.perm.length_eq;have a:=b.few;simp at this a;omega
def ai.sm{s:Sta}{r:Rd}{rest:a7}(b:Base s)(h:ai s r rest):Sm r.s.run:=⟨by have:=h.few b;omega,h.hs⟩
def ai.once{s:Sta}{r:Rd}{rest:a7}(b:Base s)(h:ai s r rest):NH r.s.run:=by have h1:=((h.perm.map λ x=>x.g.id).nodup_iff).2 b.ids;have a:=((h.perm.map λ x=>x.seq).nodup_iff).2 b.seqs;rw [Bq,Cd,Ef] at h1 a;have h1:=h1.2.1;have a:=a.2.1;unfold Lm at h1 a;rw [Ge] at h1 a;exact h1.and a
def ai.pids{s:Sta}{r:Rd}{rest:a7}(b:Base s)(h:ai s r rest):(r.s.pend.map λ x=>x.g.id).Nodup:=by have h1:=((h.perm.map λ x=>x.g.id).nodup_iff).2 b.ids;rw [Bq,Cd] at h1;exact h1.1
def ai.gangP{s:Sta}{r:Rd}{rest:a7}(b:Base s)(h:ai s r rest){p:Pn}(hp:p∈r.s.pend):(0<=p.g.pods/\p.g.pods<=16)/\bH p.g.need=true/\p.g.id≠0:=
 b.gang p (h.perm.mem_iff.1 (Cf _ hp))
def ai.skip{s:Sta}{r:Rd}{p:Pn}{rest:a7}(h:ai s r (p::rest)):ai s r rest:=
 {h with sub:=λ q a=>h.sub q (Av _ a),rn:=(Cl.1 h.rn).2}
def ai.adm{s:Sta}{r:Rd}{p:Pn}{rest:a7}(b:Base s)(h:ai s r (p::rest)){fl:Int}{hs:ax}(hl:hs.length<=1048576):ai s (U9 r p fl hs) rest where
 c:=h.c
 now:=h.now
 nxt:=h.nxt
 hist:=h.hist
 perm:=by have hp:=(yL (h.sub p (Ao ..)) (h.pids b)).1;show (dZ r.s.pend p.g.id++(r.s.run++[_]).map Rn.pn).Perm _;refine Mt ?_ h.perm;rw [Bq,<-Ag];refine (Ee (l₂:=[p])).trans ?_;rw [<-Ag];exact Dz _ hp
 sub q hq:=(yL (h.sub p (Ao ..)) (h.pids b)).2 q (h.sub q (Av _ hq)) λ e=>(Cl.1 h.rn).1 (e▸hq)
 rn:=(Cl.1 h.rn).2
 start:=h.start
 hs x hx:=by
  rcases Bd.1 hx with hx | hx
  .exact h.hs x hx
  .rw [Dp.1 hx];exact hl
def ai.evic{s:Sta}{r:Rd}{rest:a7}(b:Base s)(h:ai s r rest){ids:ax}(j:ids.Nodup)(d:∀ id∈ids,0<=bA (cK id) r.s.run 0):ai s (nG r ids) rest:=by
 obtain ⟨o,n,k,i,_,l,m,_,_⟩:=FU r.s.run ids r;have hp:=MJ r.s.run ids r;refine ⟨o.trans h.c,n.trans h.now,k.trans h.nxt,i.trans h.hist,?_,λ p a=>hp.mem_iff.2 (Ct _ (h.sub p a)),h.rn,λ e=>?_,λ x g=>h.hs x (Fm.1 g).1⟩
 .show ((ids.foldl (dQ r.s.run) r).s.pend++(aH r.s.run ids).map Rn.pn).Perm _;refine Mt ?_ h.perm;refine (Dz _ hp).trans ?_;have f:=(R8 (h.once b) j d).map Rn.pn;rw [Bq,Ef] at f;refine (Dz _ Ee).trans ?_;rw [Ag];exact Eb _ f
 .show (ids.foldl (dQ r.s.run) r).start=0;rw [m];refine h.start ?_;rw [<-l];exact e
def xM{s:Sta}{r:Rd}{rest:a7}(b:Base s)(h:ai s r rest){g:Gan}(j:bM r.s.c r.s.run g=none){ids:ax}(a:gM r.s.c r.s.run g=some ids):
  ids≠[]/\ids.Nodup/\ids.length<=39/\(∀ id∈ids,0<=bA (cK id) r.s.run 0)/\∃ x,bM r.s.c (aH r.s.run ids) g=some x:=by
 obtain ⟨_,h1,i,h3⟩:=choose_spec a;have hl:=aLo (h.once b) a;have d:=h.few b;refine ⟨λ e=>?_,h1,by omega,λ id hid=>?_,Dl.1 h3⟩
 .subst e;unfold wC at h3;rw [iK,j] at h3;cases h3
 .obtain ⟨_,x,f,e,_⟩:=i id hid;exact IM _ 0 x f e
def aJG{s:Sta}{r:Rd}{p:Pn}{rest:a7}(b:Base s)(h:ai s r (p::rest))(he:r.ev.length<=900000):LookPre r p where
 c:=by rw [h.c];exact b.c
 run:=h.sm b
 pend:=by have:=h.few b;omega
 ev:=he
 pods:=(h.gangP b (h.sub p (Ao ..))).1
 start:=h.start
 cho hf ids hq:=by obtain ⟨a1,_,a3,a4,_⟩:=xM b h hf hq;exact ⟨a1,by omega,a4⟩
def LQ{s:Sta}{r:Rd}{p:Pn}{rest:a7}(b:Base s)(h:ai s r (p::rest)):ai s (bU r p) rest/\(bU r p).ev.length<=r.ev.length+40:=by
 have u:=(h.gangP b (h.sub p (Ao ..))).1;have a:=h.skip;have j:∀ {q:Rd},ai s q (p::rest)->ai s (admR q p).1 rest/\(admR q p).1.ev.length<=q.ev.length+1:=λ{q} d=>by
  unfold admR;cases i:bM q.s.c q.s.run p.g with
  | none=>exact ⟨d.skip,Ic _⟩
  | some x=>
   have m:=aGh u i;obtain ⟨fl,hs⟩:=x;unfold xX;dsimp only;split
   .exact ⟨d.skip,Ic _⟩
   .exact ⟨d.adm b m,by show (q.ev++[_]).length<=_;simp⟩
 unfold bU;split
 .exact ⟨(j h).1,by have:=(j h).2;omega⟩
 .rename_i v;split
  .exact ⟨a,by omega⟩
  .rename_i w;have k:r.head=false:=by cases d:r.head with | false=>rfl | true=>exact absurd d w
   have f:bM r.s.c r.s.run p.g=none:=by
    cases i:bM r.s.c r.s.run p.g with
    | none=>rfl
    | some x=>
     obtain ⟨fl,hs⟩:=x;refine absurd ?_ v;unfold admR;rw [i];unfold xX;dsimp only;rw [k];rfl
   cases d:gM r.s.c r.s.run p.g with
   | none=>
    show ai s (rL r p _) rest/\(rL r p _).ev.length<=_;cases vI r.s.c r.s.now r.s.run p.g with
    | none=>exact ⟨a,by show r.ev.length<=_;omega⟩
    | some n=>exact ⟨⟨a.c,a.now,a.nxt,a.hist,a.perm,a.sub,a.rn,λ e=>(by cases e),a.hs⟩,by show (r.ev++[_]).length<=_;simp⟩
   | some ids=>
    obtain ⟨_,o,z,l,_⟩:=xM b h f d;obtain ⟨t,A⟩:=j (h.evic b o l);refine ⟨t,?_⟩;have y:(nG r ids).ev.length=r.ev.length+ids.length:=(FU r.s.run ids r).2.2.2.2.2.2.2.2;show (admR (nG r ids) p).1.ev.length<=_;omega
def KU(s:Sta)(r:Rd)(rest:a7):Prop:=ai s r rest/\r.ev.length+100*rest.length<=900000
def wY{s:Sta}(b:Base s)(r:Rd)(p:Pn)(rest:a7)(h:KU s r (p::rest)):KU s (bU r p) rest:=by have c:=h.2;rw [Ak] at c;obtain ⟨a,h3⟩:=LQ b h.1;exact ⟨a,by omega⟩
def aBK{s:Sta}(b:Base s)(r:Rd)(p:Pn)(rest:a7)(h:KU s r (p::rest)):F3 r p/\KU s (bU r p) rest:=by have a:=h.2;rw [Ak] at a;exact ⟨aFu r p (aJG b h.1 o_),wY b r p rest h⟩
structure RunOK(s:Sta):Prop where
 base:Base s
 sm:StaSm' s
 ord:OrdOK s
 at':pK s.pend
 tot:Tot (ltP s) s.pend
def RunOK.start{s:Sta}(h:RunOK s):KU s ⟨s,[],false,0⟩ (xQ s):=by
 have hp:(xQ s).Perm s.pend:=fN _ _;have c:s.pend.Nodup:=by have:=h.base.ids;rw [Bq,Cd] at this;have:=this.1;unfold Lm at this;rw [Ge] at this;exact Jq (λ h e=>h (by rw [e])) this
 have hl:=h.base.few;rw [Ai] at hl;have a:=hp.length_eq;refine ⟨⟨rfl,rfl,rfl,rfl,Jr _,λ p b=>hp.mem_iff.1 b,hp.symm.nodup c,λ_=>rfl,h.sm.run.2⟩,?_⟩;show 0+_<=_;omega
def dE(s:Sta):Rd:=(xQ s).foldl bU ⟨s,[],false,0⟩
def vP{s:Sta}(b:Base s):∀ (L:a7) (r:Rd),KU s r L->KU s (L.foldl bU r) []
 | [],_,h=>h
 | p::L,r,h=>vP b L (bU r p) (wY b r p L h)
def RunOK.few{s:Sta}(h:RunOK s):s.pend.length<40:=by have:=h.base.few;rw [Ai] at this;omega
def N6(s:Sta)(h:RunOK s):aq 14 [s.av] [] (.ret (.tup [(dE s).s.av,.slice 3 (evv (dE s).ev) .no])) []:=by have a:=h.few;have hl:(xQ s).length=s.pend.length:=(fN _ _).length_eq;exact aLb (KU s) (aBK h.base) s h.sm (xQ s) o_ (aEY s h.ord a h.at' h.tot) h.start
def eW(s:Sta)(g:Gan):Sta×Int:=
 if fU s.c g≠0 then (s,fU s.c g) else
 if 0<=lU g.id s.pend\/0<=bA (cK g.id) s.run 0 then (s,5) else
 if (bM s.c [] g).isNone=true then (s,6) else
 if 32<=s.pend.length+s.run.length then (s,8) else
 ({s with pend:=nA s.pend ⟨g,s.nxt,s.now⟩,nxt:=s.nxt+1},0)
def wE(l:a6)(t:Int):bb:=(l.filter λ x=>decide (eZ x<=t)).map λ x=>⟨3,x.g.id,0⟩
def kR(s:Sta)(n:Int):Sta×bb×Int:=
 if n<1\/1048576<n then (s,[],1) else
 if 1099511627776-n<s.now then (s,[],8) else
 ({s with hist:=tkL s.hist (EU s.c s.run) n s.c.half,now:=s.now+n,run:=atL s.run (s.now+n)},wE s.run (s.now+n),0)
abbrev uH(s:Sta):ab:=.cells 31 s.cs
def aF8{c:Con}{g:Gan}(h:fU c g=0):(0<=g.pods/\g.pods<=16)/\bH g.need=true:=by
 unfold fU at h;split at h
 .rename_i a;unfold P6 at a;simp only [Af,decide_eq_true_eq] at a;exact ⟨⟨by omega,by omega⟩,a.2.1⟩
 .omega
def aCw{x:Rn}{l:a6}{t:Int}(h:eZ x<=t):wE (x::l) t=⟨3,x.g.id,0⟩::wE l t:=by unfold wE;rw [Hg,if_pos (decide_eq_true h)];rfl
def aCx{x:Rn}{l:a6}{t:Int}(h:¬ eZ x<=t):wE (x::l) t=wE l t:=by unfold wE;rw [Hg,if_neg (by simpa using h)]
def aC(s:Sta)(x:Cmd):Sta×bb×Int:=
 if C8.chk x≠0 then (s,[],C8.chk x) else
 if x.k=1 then (if cJ x.c≠0 then (s,[],cJ x.c) else if 0<s.pend.length+s.run.length then (s,[],7) else ({s with c:=x.c,hist:=Aj x.c.ns.length 0},[],0)) else
 if x.k=2 then ((eW s x.g).1,[],(eW s x.g).2) else
 if x.k=5 then kR s x.n else
 if x.k=6 then ((dE s).s,(dE s).ev,0) else
 if 0<=bA (cK x.n) s.run 0 then ({s with run:=aH s.run [x.n]},[],0) else
 if x.k=3\/lU x.n s.pend<0 then (s,[],4) else
 ({s with pend:=dZ s.pend x.n},[],0)
structure StOK(s:Sta):Prop where
 c:s.c.sm
 run:RunOK s
 half:s.c.half<=9223372036854775807
 nxt:0<=s.nxt/\s.nxt<=1099511627777
def aPZ{x:Cmd}(h:C8.chk x=0):1<=x.k/\x.k<=6:=by
 unfold C8.chk at h;split at h
 .rename_i a;simpa using a
 .omega
def rF(s:Sta)(h:StaSm' s):aq 133 [s.av] [] (.ret s.av) []:=by have h1:=P0 s.c.ns h.ns;have b:=P1 s.c.hs h.hs;have h3:=YE s.pend h.pend;have d:=YF s.hist h.hist;have a:=aA.nil2 (by have h:=sQ s.run h.run [] s_;rw [iK] at h;exact h);exact c_ Tryz.f133 λ_=>zW
def aDU(s:Sta)(id:Int)(hl:s.run.length<=1048576):aq 206 [s.av,ii id] [] (.ret (ii (bA (cK id) s.run 0))) []:=by
 have h:=IC _ id (LF id) s.run hl;generalize bA (cK id) s.run 0=r at *
 exact c_ Tryz.f206 λ_=>zW
def AO:aq 45 [] [] (.ret (Sta.av ⟨⟨[],[],0,0⟩,0,1,[],[],[]⟩)) []:=by exact c_ Tryz.f45 λ_=>zW
abbrev aOS(s S:Sta)(g:Gan)(e:Int):Prop:=aq 136 [.ref 0 0,g.av] [uH s] (.ret (ii e)) [uH S]
set_option maxHeartbeats 2000000 in
def aIr(s:Sta)(g:Gan)(m:s.c.sm)(hp:s.pend.length<=1000000)(hl:s.run.length<=1000000)(w:s.nxt<=1099511627777)(o:0<=s.nxt):aOS s (eW s g).1 g (eW s g).2:=by
 have h1:=Q3 s.c g;have x:=aEH s.pend g.id;have h3:=aDU s g.id o_;have n:(pnv s.pend).length=s.pend.length:=by simp
 have q:(rav s.run).length=s.run.length:=by simp
 unfold eW;by_cases d:fU s.c g≠0
 .rw [if_pos d];have t:(fU s.c g !=0)=true:=by simpa using d
  generalize fU s.c g=e at *
  exact zqya1
 rw [if_neg d];have d:fU s.c g=0:=Fs.1 d;obtain ⟨p,v⟩:=aF8 d;rw [d] at h1;have h:=SQ s.c m g p;generalize lU g.id s.pend=a at *
 generalize bA (cK g.id) s.run 0=b at *
 by_cases k:0<=a\/0<=b
 .rw [if_pos k];by_cases r:0<=a
  .exact zqya1
  .have l:0<=b:=o_;exact zqya1
 rw [if_neg k];have r:a<0:=o_;have l:b<0:=o_;cases i:(bM s.c [] g).isNone with
 | true=>
  rw [i] at h;rw [if_pos rfl];exact zqya1
 | false=>
  rw [i] at h;rw [if_neg d_];by_cases j:32<=s.pend.length+s.run.length
  .rw [if_pos j];exact zqya1
  .rw [if_neg j];have u:=OI s.pend ⟨g,s.nxt,s.now⟩ hp;generalize nA s.pend ⟨g,s.nxt,s.now⟩=pq at *
   exact zqya1
def aLt(n a b:Int)(r:Bool)(d:(decide (a<=n)&&decide (n<=b))=r):aq 210 [ii n,ii a,ii b] [] (.ret (.bool r)) []:=by
 by_cases h1:a<=n
 .by_cases c:n<=b
  .have e:r=true:=by rw [<-d,decide_eq_true h1,decide_eq_true c];rfl
   subst e;refine c_ Tryz.f210 λ_=>?_
   repeat' first | (refine gN hE ?_;conv=>whnf) | exact rfl | refine zt ?_ | refine zu ?_ ?_ | intro h | fail
   all_goals exact congrArg (λ b=>Res.ret (aa.bool b)) (decide_eq_true c)
  .have e:r=false:=by rw [<-d,decide_eq_true h1,decide_eq_false c];rfl
   subst e;refine c_ Tryz.f210 λ_=>?_
   repeat' first | (refine gN hE ?_;conv=>whnf) | exact rfl | refine zt ?_ | refine zu ?_ ?_ | intro h | fail
   all_goals exact congrArg (λ b=>Res.ret (aa.bool b)) (decide_eq_false c)
 .have e:r=false:=by rw [<-d,decide_eq_false h1];rfl
  subst e;exact c_ Tryz.f210 λ_=>zW
noncomputable abbrev aPJ:Func:=Tryz.f139
abbrev aQq(R:Sta)(Q:bb)(e:Int):Goal:=.full 1 (.ret (.tup [.slice 3 (evv Q) .no,ii e])) [uH R]
set_option maxHeartbeats 1000000 in
def aFC(s R:Sta)(hs:Sm s.run)(l:R={s with run:=atL s.run s.now})(Q:bb):∀ (m i:Nat) (ev:bb),i+m=s.run.length->ev.length<=i->ev++wE (s.run.drop i) s.now=Q->
  To (Eo [6] []) aPJ (aQq R Q 0) (.head (stk aPJ 0) [(0,.ref 0 0),(6,.slice 3 (evv ev) (.own 1 0)),(55,.slice 14 (rav s.run) .no),(56,.int .i64 ((rav s.run).length:Nat)),(57,ii i)] [uH s,evT 0]):=by
 have e:(rav s.run).length=s.run.length:=by simp
 have hl:=hs.1;intro m;induction m with
 | zero=>
  intro i ev k n a;rw [Ab o_] at a;have a:ev++[]=Q:=a;rw [Ar] at a;subst a;have o:=aHy s.run hs s.now;generalize atL s.run s.now=ra at *
  subst l;refine gV ?_;exact zW
 | succ m c=>
  intro i ev k n a;have b:i<s.run.length:=o_;rw [Aa b] at a;have get:(rav s.run)[i]? =some s.run[i].av:=cF b;generalize s.run[i]=x at a get;have j:=I0 x;have h:(evv ev).length<=1048576:=by simp;omega
  by_cases d:eZ x<=s.now
  .rw [aCw d] at a;have next:=c (i+1) (ev++[⟨3,x.g.id,0⟩]) o_ q_ (by rw [Ag];exact a)
   have f:evv (ev++[⟨3,x.g.id,0⟩])=evv ev++[Ev.av ⟨3,x.g.id,0⟩]:=by simp
   rw [f] at next
   generalize eZ x=t at *
   clear c a f;refine gV ?_;exact zW
  .rw [aCx d] at a;have next:=c (i+1) ev o_ o_ a
   generalize eZ x=t at *
   clear c a;refine gV ?_;exact zW
set_option maxHeartbeats 1000000 in
def aFB(s:Sta)(n:Int)(j:s.c.sm)(hs:Sm s.run)(t:LtF s.hist)(d:s.hist.length<=1048576)(o:s.c.half<=9223372036854775807)(m:0<=s.now)(l:s.now<=1099511627776):
  ((kR s n).2.2≠0->aq 139 [.ref 0 0,ii n] [uH s] (.ret (.tup [.slice 3 [] .nil,ii (kR s n).2.2])) [uH (kR s n).1])/\((kR s n).2.2=0->aq 139 [.ref 0 0,ii n] [uH s] (.ret (.tup [.slice 3 (evv (kR s n).2.1) .no,ii 0])) [uH (kR s n).1]):=by
 have k:=aLt n 1 1048576 _ rfl;unfold kR;by_cases b:n<1\/1048576<n
 .rw [if_pos b];have e:(decide (1<=n)&&decide (n<=1048576))=false:=by
   rcases b with q | q
   .rw [decide_eq_false o_];rfl
   .rw [decide_eq_false (show ¬ n<=1048576 by omega),Bl]
  rw [e] at k;refine ⟨λ_=>?_,λ h=>by cases h⟩;exact zqya4
 rw [if_neg b];have p:1<=n:=o_;have u:n<=1048576:=o_;rw [decide_eq_true p,decide_eq_true u] at k;by_cases i:1099511627776-n<s.now
 .rw [if_pos i];refine ⟨λ_=>?_,λ h=>by cases h⟩;exact zqya4
 .rw [if_neg i];refine ⟨λ h=>absurd rfl h,λ_=>?_⟩;have a:=aIy s.c s.run;have hsl:(EU s.c s.run).length<=1048576:=by have:=j.ns;unfold EU ofL pJ;rw [mG];simp;omega
  have h1:=aBE s.c j s.run hs.1;have v:=aIc s.hist (EU s.c s.run) t d a hsl n s.c.half o_ o;have r:=aFC {s with hist:=tkL s.hist (EU s.c s.run) n s.c.half,now:=s.now+n} {s with hist:=tkL s.hist (EU s.c s.run) n s.c.half,now:=s.now+n,run:=atL s.run (s.now+n)} hs rfl _ s.run.length 0 [] s_ s_ rfl;rw [Ap] at r;generalize tkL s.hist (EU s.c s.run) n s.c.half=th at *
  generalize EU s.c s.run=sh at *
  generalize wE s.run (s.now+n)=Q at *
  generalize atL s.run (s.now+n)=ra at *
  exact zqya4
abbrev aA8(s S:Sta)(c:Con)(e:Int):Prop:=aq 135 [.ref 0 0,c.av] [uH s] (.ret (ii e)) [uH S]
def aHb(s:Sta)(c:Con)(a:c.sm)(h:cJ c≠0):aA8 s s c (cJ c):=by
 have h1:=wZ c a;generalize cJ c=e at *
 have b:(e !=0)=true:=by simpa using h
 exact zqya7
def aCM(s:Sta)(c:Con)(d:c.sm)(h:cJ c=0)(hp:s.pend.length<=1000000)(hl:s.run.length<=1000000)(e:0<s.pend.length+s.run.length):aA8 s s c 7:=by
 have h1:=wZ c d;rw [h] at h1;have b:(pnv s.pend).length=s.pend.length:=by simp
 have a:(rav s.run).length=s.run.length:=by simp
 exact zqya7
def aC6(c:Con):YX c=Aj c.ns.length 0:=by
 unfold YX;have h:∀ (l:bc) (i:Nat),fB (λ_ _=>0) l i=Aj l.length 0:=by
  intro l;induction l with
  | nil=>intro i;rfl
  | cons x l a=>intro i;unfold fB;rw [a];rfl
 exact h _ 0
set_option maxHeartbeats 1000000 in
def aLh(s:Sta)(c:Con)(a:c.sm)(h:cJ c=0)(hp:s.pend=[])(hl:s.run=[]):aA8 s {s with c:=c,hist:=Aj c.ns.length 0} c 0:=by
 have h1:=wZ c a;rw [h] at h1;have b:(pnv s.pend).length=0:=by rw [hp];rfl
 have k:(rav s.run).length=0:=by rw [hl];rfl
 have e:=a.ns;have j:=a.hs;have i:=P0 c.ns o_;have h3:=P1 c.hs o_;have d:=aHQ c a;rw [aC6] at d;generalize Aj c.ns.length 0=z at *
 refine cT (E:=(Er [] [24,38])) (fn:=Tryz.f135) (g:=.full 1 _ _) λ_=>?_
 repeat' first | (refine gN (hEr [] [24,38]) ?_;conv=>whnf) | refine .pure _ [] h1 ?_ | refine .pure _ [] i ?_ | exact rfl | refine zt ?_ | refine zu ?_ ?_ | intro h | fail
 refine .pure _ [] h3 ?_;refine dF (hEr [] [24,38]) 27 ?_;conv=>whnf
 refine To.permAt (hEr [] [24,38]) [0,1,2,3,4,5,6,7,8] [9,10,11,12,13] (by rfl) ?_;conv=>whnf
 refine aL ?_;conv=>whnf;conv=>whnf
 refine aL ?_;conv=>whnf;conv=>whnf
 refine aL ?_;conv=>whnf;conv=>whnf
 refine aL ?_;conv=>whnf;conv=>whnf
 refine aL ?_;conv=>whnf;conv=>whnf
 refine aL ?_;conv=>whnf
 exact zW
abbrev ofC(x:Cmd)(v:aa):Prop:=aq 134 [x.av] [] (.ret v) []
def aQm(x:Cmd)(a:x.k=1):ofC x (.iface 229 (.agg x.c.cs)):=by exact zqya0
def aQl(x:Cmd)(a:x.k=2):ofC x (.iface 233 (.agg x.g.cs)):=by exact zqya0
def aPa(x:Cmd)(a:x.k=3):ofC x (.iface 236 (.agg [ii x.n])):=by exact zqya0
def aNh(x:Cmd)(a:x.k=4):ofC x (.iface 238 (.agg [ii x.n])):=by exact zqya0
def aQk(x:Cmd)(a:x.k=5):ofC x (.iface 242 (.agg [ii x.n])):=by exact zqya0
def aQj(x:Cmd)(a:x.k=6):ofC x (.iface 245 (.agg [])):=by exact zqya0
abbrev lZ(s:Sta)(x:Cmd)(R:Sta×bb×Int):Prop:=aq 71 [s.av,x.av] [] (.ret (.tup [R.1.av,.slice 3 (evv R.2.1) .no,ii R.2.2])) []
def aIG(s:Sta)(hs:StaSm' s)(x:Cmd)(e:Int)(a:C8.chk x=e)(h:e≠0):lZ s x (s,[],e):=by
 have c:=rF s hs;have h1:=C8.check_any x e a;have b:(e !=0)=true:=by simpa using h
 exact zqya12
set_option maxHeartbeats 1000000 in
def aO1(s:Sta)(hs:StaSm' s)(x:Cmd)(m:C8.chk x=0)(l:x.k=2)(S:Sta)(e:Int)(j:e≠0->S=s)(b:aOS s S x.g e):lZ s x (S,[],e):=by
 have c:=rF s hs;have h1:=C8.check_any x 0 m;have d:=aQl x l;by_cases a:e=0
 .subst a;refine c_ Tryz.f71 λ_=>?_
  repeat' first | (refine gN hE ?_;conv=>whnf) | refine .pure _ [] c ?_ | refine .pure _ [] h1 ?_ | refine .pure _ [] d ?_ | refine .eff [] [4] _ _ rfl b ?_ | exact rfl | refine zt ?_ | refine zu ?_ ?_ | intro h | fail
 .have i:(e !=0)=true:=by simpa using a
  rw [j a] at b⊢;refine c_ Tryz.f71 λ_=>?_
  repeat' first | (refine gN hE ?_;conv=>whnf) | refine .pure _ [] c ?_ | refine .pure _ [] h1 ?_ | refine .pure _ [] d ?_ | refine .eff [] [4] _ _ rfl b ?_ | refine Ae (λ_=>?_) (λ h=>absurd (i.symm.trans h) d_) | exact rfl | refine zt ?_ | refine zu ?_ ?_ | intro h | fail
set_option maxHeartbeats 1000000 in
def aOY(s:Sta)(hs:StaSm' s)(x:Cmd)(b:C8.chk x=0)(a:x.k=6)(S:Sta)(ev:bb)(c:aq 14 [s.av] [] (.ret (.tup [S.av,.slice 3 (evv ev) .no])) []):lZ s x (S,ev,0):=by have e:=rF s hs;have h1:=C8.check_any x 0 b;have d:=aQj x a;exact zqya12
set_option maxHeartbeats 1000000 in
def aOZ(s:Sta)(hs:StaSm' s)(x:Cmd)(m:C8.chk x=0)(l:x.k=5)(S:Sta)(ev:bb)(e:Int)(j:e≠0->S=s/\ev=[])
  (c:(e≠0->aq 139 [.ref 0 0,ii x.n] [uH s] (.ret (.tup [.slice 3 [] .nil,ii e])) [uH S])/\(e=0->aq 139 [.ref 0 0,ii x.n] [uH s] (.ret (.tup [.slice 3 (evv ev) .no,ii 0])) [uH S])):lZ s x (S,ev,e):=by
 have b:=rF s hs;have h1:=C8.check_any x 0 m;have d:=aQk x l;by_cases a:e=0
 .have h3:=c.2 a;subst a;refine c_ Tryz.f71 λ_=>?_
  repeat' first | (refine gN hE ?_;conv=>whnf) | refine .pure _ [] b ?_ | refine .pure _ [] h1 ?_ | refine .pure _ [] d ?_ | refine .eff [] [4] _ _ rfl h3 ?_ | exact rfl | refine zt ?_ | refine zu ?_ ?_ | intro h | fail
 .have i:(e !=0)=true:=by simpa using a
  have h3:=c.1 a;obtain ⟨rfl,rfl⟩:=j a;refine c_ Tryz.f71 λ_=>?_
  repeat' first | (refine gN hE ?_;conv=>whnf) | refine .pure _ [] b ?_ | refine .pure _ [] h1 ?_ | refine .pure _ [] d ?_ | refine .eff [] [4] _ _ rfl h3 ?_ | refine Ae (λ_=>?_) (λ h=>absurd (i.symm.trans h) d_) | exact rfl | refine zt ?_ | refine zu ?_ ?_ | intro h | fail
set_option maxHeartbeats 1000000 in
def aD5(s:Sta)(hs:StaSm' s)(x:Cmd)(n:C8.chk x=0)(m:x.k=1)(S:Sta)(e:Int)(l:e≠0->S=s)(b:aA8 s S x.c e):lZ s x (S,[],e):=by
 have d:=rF s hs;have h1:=C8.check_any x 0 n;have i:=aQm x m;by_cases a:e=0
 .subst a;refine c_ Tryz.f71 λ_=>?_
  repeat' first | (refine gN hE ?_;conv=>whnf) | refine .pure _ [] d ?_ | refine .pure _ [] h1 ?_ | refine .pure _ [] i ?_ | refine .eff [] [4] _ _ rfl b ?_ | exact rfl | refine zt ?_ | refine zu ?_ ?_ | intro h | fail
 .have j:(e !=0)=true:=by simpa using a
  rw [l a] at b⊢;refine c_ Tryz.f71 λ_=>?_
  repeat' first | (refine gN hE ?_;conv=>whnf) | refine .pure _ [] d ?_ | refine .pure _ [] h1 ?_ | refine .pure _ [] i ?_ | refine .eff [] [4] _ _ rfl b ?_ | refine Ae (λ_=>?_) (λ h=>absurd (j.symm.trans h) d_) | exact rfl | refine zt ?_ | refine zu ?_ ?_ | intro h | fail
def W0(n:Nat)(id:Int)(d:∀ x:Rn,aA Tryz.prog n [x.av,.ptr [ii id]] [] (.ret (.bool (cK id x))) [])(l:a6)(hl:l.length<=1048576)(r:Int):∀ (m i:Nat),i+m=l.length->bA (cK id) (l.drop i) i=r->
  To E MQ (.full 1 (.ret (ii r)) (CU l)) (.head (stk MQ 0) [(0,.row 0 0),(1,idF n id),(7,.int .i64 ((rav l).length:Nat)),(8,ii i)] (CU l)):=by
 have g:(rav l).length=l.length:=by simp
 intro m;induction m with
 | zero=>
  exact zqya11
 | succ m e=>
  intro i h a;have b:i<l.length:=o_;rw [Aa b] at a;have get:(rav l)[i]? =some l[i].av:=cF b;generalize l[i]=x at a get;unfold bA at a;have f:=d x;have e:=e (i+1) o_;cases c:cK id x with
  | true=>
   exact zqya13
  | false=>
   exact zqya8
def aFR(n:Nat)(id:Int)(a:∀ x:Rn,aA Tryz.prog n [x.av,.ptr [ii id]] [] (.ret (.bool (cK id x))) [])(l:a6)(hl:l.length<=1048576):aq 172 [.row 0 0,idF n id] (CU l) (.ret (ii (bA (cK id) l 0))) (CU l):=by
 have h:=W0 n id a l hl _ l.length 0 o_ rfl;rw [Ap] at h;generalize bA (cK id) l 0=r at *
 refine cT (E:=E) (fn:=Tryz.f172) (g:=.full 1 _ _) λ_=>?_;exact zW
def LA(s:Sta)(id:Int)(hl:s.run.length<=1048576):aq 206 [s.avR 0 0,ii id] (CU s.run) (.ret (ii (bA (cK id) s.run 0))) (CU s.run):=by
 have h:=aFR _ id (LF id) s.run hl;generalize bA (cK id) s.run 0=r at *
 refine cT (E:=E) (fn:=Tryz.f206) (g:=.full 1 _ _) λ_=>?_
 repeat' first | (refine gN hE ?_;conv=>whnf) | refine .eff [2] [0] _ _ rfl h ?_ | exact rfl | refine zt ?_ | refine zu ?_ ?_ | intro h | fail
 refine ⟨[],[0],⟨rfl,rfl⟩,rfl,rfl⟩
abbrev F4:aa:=.agg [ii 0,ii 0,ii 0,ii 0,ii 0,ii 0,ii 0,ii 0,ii 0,ii 0,ii 0,ii 0,ii 0,.slice 1 [] .no]
def V8(xs:a6)(i:Nat)(c:i<xs.length)(e:xs.length<=1000000):aq 208 [.row 0 0,.int .i64 i,.int .i64 ((i:Int)+1)] (CU xs)
  (.ret (.sub 0 0 0 (xs.length-1) 14)) [.row 0 14 107 (rav (xs.eraseIdx i)++[F4])]:=by
 refine cT (E:=E) (fn:=Tryz.f208) (g:=.full 1 _ _) λ_=>gV ?_;refine ⟨i,rfl,gV ?_⟩;refine ⟨i+1,by push_cast;rfl,?_⟩;refine gV ?_;refine ⟨xs.length,by simp,gV ?_⟩;refine ⟨⟨⟨by omega,by omega⟩,by simp⟩,gV ?_⟩;refine ⟨λ h=>?_,λ h=>?_⟩
 .simp at h;omega
 .refine gV ?_;refine ⟨i,rfl,gV ?_⟩;refine ⟨by simp;omega,?_⟩;refine gV ?_;refine ⟨i+1,by push_cast;rfl,?_⟩;refine gV ?_;refine ⟨by simp;omega,?_⟩;refine gV ?_;have a:(rav xs).length=xs.length:=by simp
  have b:(Ii ((rav xs).length-(i+1)) (Ht (i+1) (rav xs))).length=xs.length-(i+1):=by simp
  rw [b,a];refine ⟨by omega,gV ?_⟩;refine ⟨xs.length-1,by omega,gV ?_⟩;refine ⟨xs.length,rfl,gV ?_⟩;refine ⟨by simp;omega,?_⟩;refine gV ?_;refine ⟨[],[0],⟨rfl,rfl⟩,?_⟩;conv=>whnf
  refine ⟨?_,?_⟩
  .show Res.ret (.sub 0 0 0 (i+(xs.length-(i+1))) 14)=_;rw [show i+(xs.length-(i+1))=xs.length-1 from by omega]
  .have h:=Q2.del_list (rav xs) i (by rw [a];exact c) F4;rw [a] at h;have d:(rav xs).eraseIdx i=rav (xs.eraseIdx i):=by simp only [rav,Gi,Bq,Gq,Jd]
   rw [d] at h;exact congrArg (λ l=>[ab.row 0 14 107 l]) h
abbrev aOT(s:Sta)(run:aa):ab:=.cells 31 [.slice 11 (nav s.c.ns) .no,.slice 6 (hav s.c.hs) .no,ii s.c.half,ii s.c.age,ii s.now,ii s.nxt,.slice 11 (pnv s.pend) .no,run,.slice 1 (fv s.hist) .no]
abbrev aMz(s:Sta):au:=[aOT s (.row 1 0),.row 0 14 107 (rav s.run)]
def ZM(s:Sta)(id:Int)(hl:s.run.length<=1000000)(h:¬ 0<=bA (cK id) s.run 0):aq 137 [.ref 0 0,ii id] (aMz s) (.ret (ii 4)) (aMz s):=by
 have h1:=LA s id o_;generalize bA (cK id) s.run 0=a at *
 exact zqya10
def ZL(s:Sta)(id:Int)(i:Nat)(hl:s.run.length<=1000000)(a:i<s.run.length)(h:bA (cK id) s.run 0=(i:Int)):aq 137 [.ref 0 0,ii id] (aMz s) (.ret (ii 0)) [aOT s (.sub 1 0 0 (s.run.length-1) 14),.row 0 14 107 (rav (s.run.eraseIdx i)++[F4])]:=by
 have h1:=LA s id o_;have b:=V8 s.run i a hl;rw [h] at h1;generalize s.run.length-1=q at *
 generalize rav (s.run.eraseIdx i)++[F4]=K at *
 exact zqya10
set_option maxHeartbeats 1000000 in
def aMM(s:Sta)(hs:StaSm' s)(x:Cmd)(e:C8.chk x=0)(a:x.k=3)(hl:s.run.length<=1000000)(h:¬ 0<=bA (cK x.n) s.run 0):lZ s x (s,[],4):=by
 have b:=FC s hs;have h1:=C8.check_any x 0 e;have d:=aPa x a;have c:=ZM s x.n hl h;refine c_ Tryz.f71 λ_=>?_
 repeat' first | (refine gN hE ?_;conv=>whnf) | refine .pure _ _ b ?_ | refine .pure _ [] h1 ?_ | refine .pure _ [] d ?_ | refine .eff [] [6,5] _ _ rfl c ?_ | exact rfl | refine zt ?_ | refine zu ?_ ?_ | intro h | fail
def aG6(l:a6)(i:Nat)(a:i<l.length):((rav (l.eraseIdx i)++[F4]).drop 0).take (l.length-1)=rav (l.eraseIdx i):=by
 have h:(rav (l.eraseIdx i)).length=l.length-1:=by simp [Kn,a]
 rw [Ap,<-h,List.take_left'];rfl
set_option maxHeartbeats 1000000 in
def aO0(s:Sta)(hs:StaSm' s)(x:Cmd)(l:C8.chk x=0)(c:x.k=3)(hl:s.run.length<=1000000)(i:Nat)(b:i<s.run.length)(h:bA (cK x.n) s.run 0=(i:Int)):lZ s x ({s with run:=s.run.eraseIdx i},[],0):=by
 have d:=FC s hs;have h1:=C8.check_any x 0 l;have j:=aPa x c;have e:=ZL s x.n i hl b h;have a:=aG6 s.run i b;unfold lZ Sta.av Sta.cs;dsimp only;rw [<-a];generalize s.run.length-1=q at *
 generalize rav (s.run.eraseIdx i)++[F4]=K at *
 clear a;refine c_ Tryz.f71 λ_=>?_
 repeat' first | (refine gN hE ?_;conv=>whnf) | refine .pure _ _ d ?_ | refine .pure _ [] h1 ?_ | refine .pure _ [] j ?_ | refine .eff [] [6,5] _ _ rfl e ?_ | exact rfl | refine zt ?_ | refine zu ?_ ?_ | intro h | fail
set_option maxHeartbeats 1000000 in
def aMJ(s:Sta)(hs:StaSm' s)(x:Cmd)(c:C8.chk x=0)(b:x.k=4)(hp:s.pend.length<=1000000)(h:¬ lU x.n s.pend<0):lZ s x ({s with pend:=dZ s.pend x.n},[],0):=by
 have e:=rF s hs;have h1:=C8.check_any x 0 c;have d:=aNh x b;have a:=vT s.pend x.n hp;rw [decide_eq_false h] at a;generalize dZ s.pend x.n=pq at *
 exact zqya12
def QV{l:a7}{a:Int}(h:lU a l<0):dZ l a=l:=by unfold dZ;rw [if_pos h]
set_option maxHeartbeats 1000000 in
def aML(s:Sta)(hs:StaSm' s)(x:Cmd)(j:C8.chk x=0)(b:x.k=4)(hp:s.pend.length<=1000000)(hl:s.run.length<=1000000)(h:lU x.n s.pend<0)(c:¬ 0<=bA (cK x.n) s.run 0):lZ s x (s,[],4):=by
 have d:=FC s hs;have h1:=C8.check_any x 0 j;have i:=aNh x b;have a:=vT s.pend x.n hp;rw [decide_eq_true h,QV h] at a;have e:=ZM s x.n hl c;refine c_ Tryz.f71 λ_=>?_
 repeat' first | (refine gN hE ?_;conv=>whnf) | refine .pure _ _ d ?_ | refine .pure _ [] h1 ?_ | refine .pure _ [] i ?_ | refine .pure _ [] a ?_ | refine .eff [] [6,5] _ _ rfl e ?_ | exact rfl | refine zt ?_ | refine zu ?_ ?_ | intro h | fail
set_option maxHeartbeats 1000000 in
def aMK(s:Sta)(hs:StaSm' s)(x:Cmd)(o:C8.chk x=0)(d:x.k=4)(hp:s.pend.length<=1000000)(hl:s.run.length<=1000000)(h:lU x.n s.pend<0)(i:Nat)(c:i<s.run.length)(e:bA (cK x.n) s.run 0=(i:Int)):lZ s x ({s with run:=s.run.eraseIdx i},[],0):=by
 have j:=FC s hs;have h1:=C8.check_any x 0 o;have m:=aNh x d;have b:=vT s.pend x.n hp;rw [decide_eq_true h,QV h] at b;have l:=ZL s x.n i hl c e;have a:=aG6 s.run i c;unfold lZ Sta.av Sta.cs;dsimp only;rw [<-a];generalize s.run.length-1=q at *
 generalize rav (s.run.eraseIdx i)++[F4]=K at *
 clear a;refine c_ Tryz.f71 λ_=>?_
 repeat' first | (refine gN hE ?_;conv=>whnf) | refine .pure _ _ j ?_ | refine .pure _ [] h1 ?_ | refine .pure _ [] m ?_ | refine .pure _ [] b ?_ | refine .eff [] [6,5] _ _ rfl l ?_ | exact rfl | refine zt ?_ | refine zu ?_ ?_ | intro h | fail
def aL3(id:Int):∀ (l:a6) (k i:Nat),(l.map λ x=>x.g.id).Nodup->bA (cK id) l k=((k+i:Nat):Int)->l.eraseIdx i=aH l [id]
 | [],k,i,_,h=>by have h:(-1:Int)=((k+i:Nat):Int):=h;omega
 | x::l,k,i,hn,h=>by
  rw [Bj,Cl] at hn;unfold bA at h;by_cases b:cK id x=true
  .rw [if_pos b] at h;obtain rfl:i=0:=o_;have a:x.g.id=id:=by unfold cK at b;simpa using b
   have h1:inB x.g.id [id]=true:=FP.2 (by rw [a];exact Jk _);rw [pM h1];show l=_;refine (Gf.2 λ y f=>?_).symm;have:y.g.id≠id:=λ e=>hn.1 (by rw [a,<-e];exact Cq f);cases c:inB y.g.id [id] with
   | false=>rfl
   | true=>exact absurd (by simpa using FP.1 c) this
  .rw [if_neg b] at h;rcases sC (cK id) l (k+1) with d | d
   .omega
   .obtain ⟨j,rfl⟩:∃ j,i=j+1:=⟨i-1,by omega⟩
    have h1:inB x.g.id [id]=false:=by
     cases c:inB x.g.id [id] with
     | false=>rfl
     | true=>exact absurd (by unfold cK;simpa using FP.1 c) b
    rw [pL h1];show x::l.eraseIdx j=_;rw [aL3 id l (k+1) j hn.2 (by rw [h];congr 1;omega)]
def aLs{s:Sta}(b:Base s){n:Int}(h1:¬ lU n s.pend<0)(d:0<=bA (cK n) s.run 0):False:=by
 obtain ⟨i,c⟩:=nZ d;rcases FT n s.pend with ⟨_,h⟩ | ⟨A,p,B,e,hp,_⟩
 .omega
 .have a:=b.ids;rw [Bq,Cd] at a;exact a.2.2 n (by rw [e,<-hp];exact Cq (Ct _ (Ao ..))) n (by rw [<-c,Ef];exact Cq (f:=(λ x=>x.g.id) ∘ Rn.pn) i) rfl
def aDO(s:Sta)(g:Gan):(eW s g).2≠0->(eW s g).1=s:=by
 unfold eW;iterate 4 (split;· exact λ_=>rfl)
 exact λ h=>absurd rfl h
def aBv(s:Sta)(n:Int):(kR s n).2.2≠0->(kR s n).1=s/\(kR s n).2.1=[]:=by
 unfold kR;iterate 2 (split;· exact λ_=>⟨rfl,rfl⟩)
 exact λ h=>absurd rfl h
def CO(s:Sta)(x:Cmd)(h:StOK s)(z:x.k=1->x.c.sm):lZ s x (aC s x):=by
 have a:=h.run.sm;have t:=h.run.base.few;have o:=aE4 (ai.once h.run.base (s:=s) (r:=⟨s,[],false,0⟩) (rest:=[]) ⟨rfl,rfl,rfl,rfl,Jr _,λ p hp=>(by cases hp),Hz,λ_=>rfl,a.run.2⟩);rw [Ai,Cm] at t;unfold aC;by_cases b:C8.chk x≠0
 .rw [if_pos b];exact aIG s a x _ rfl b
 rw [if_neg b];have b:C8.chk x=0:=Fs.1 b;have C:=aPZ b;by_cases l:x.k=1
 .rw [if_pos l];have j:=z l;by_cases d:cJ x.c≠0
  .rw [if_pos d];exact aD5 s a x b l _ _ (λ_=>rfl) (aHb s x.c j d)
  rw [if_neg d];have d:cJ x.c=0:=Fs.1 d;by_cases f:0<s.pend.length+s.run.length
  .rw [if_pos f];exact aD5 s a x b l _ _ (λ_=>rfl) (aCM s x.c j d o_ o_ f)
  .rw [if_neg f];exact aD5 s a x b l _ _ (λ e=>absurd rfl e) (aLh s x.c j d (Cv.1 o_) (Cv.1 o_))
 rw [if_neg l];by_cases d:x.k=2
 .rw [if_pos d];exact aO1 s a x b d _ _ (aDO s x.g) (aIr s x.g h.c o_ o_ h.nxt.2 h.nxt.1)
 rw [if_neg d];by_cases v:x.k=5
 .rw [if_pos v];exact aOZ s a x b v _ _ _ (aBv s x.n) (aFB s x.n h.c a.run h.run.ord.lt h.run.ord.hl h.half h.run.ord.now.1 h.run.ord.now.2)
 rw [if_neg v];by_cases w:x.k=6
 .rw [if_pos w];exact aOY s a x b w _ _ (N6 s h.run)
 rw [if_neg w];by_cases m:0<=bA (cK x.n) s.run 0
 .rw [if_pos m]
  obtain ⟨i,u⟩:∃ i:Nat,bA (cK x.n) s.run 0=(i:Int):=⟨_,(Ld m).symm⟩
  have q:i<s.run.length:=by rcases sC (cK x.n) s.run 0 with B | B<;>omega
  rw [<-aL3 x.n s.run 0 i o (by rw [u];congr 1;omega)];by_cases f:x.k=3
  .exact aO0 s a x b f o_ i q u
  .have A:lU x.n s.pend<0:=Lo λ e=>aLs h.run.base e m;exact aMK s a x b o_ o_ o_ A i q u
 rw [if_neg m];by_cases y:x.k=3\/lU x.n s.pend<0
 .rw [if_pos y];by_cases f:x.k=3
  .exact aMM s a x b f o_ m
  .exact aML s a x b o_ o_ o_ (y.resolve_left f) m
 .rw [if_neg y];exact aMJ s a x b o_ o_ o_
def cA:Sta:=⟨⟨[],[],0,0⟩,0,1,[],[],[]⟩
def GR{f:Rn->Int}(q:Rn->Bool):∀ {l:a6},(∀ x∈l,0<=f x)->cI ((l.filter q).map f)<=cI (l.map f)
 | [],_=>Dc _
 | x::l,h=>by
  have c:=GR q (l:=l) λ y b=>h y (Av _ b);have d:=h x (Ao ..);have e:cI ((x::l).map f)=f x+cI (l.map f):=rfl;by_cases a:q x=true
  .rw [Gb a,e];show f x+cI _<=_;omega
  .rw [Fc a,e];omega
def QX{f:Rn->Int}{x:Rn}:∀ {l:a6},cI ((l++[x]).map f)=cI (l.map f)+f x
 | []=>by show f x+0=0+f x;omega
 | y::l=>by show f y+cI ((l++[x]).map f)=f y+cI (l.map f)+f x;rw [QX];omega
def UL{c:Con}{free:a8}{g:Gan}{hs:ax}:uQ c free g hs=true↔(hs.length:Int)=g.pods/\(∃ G∈gpL c g.lev,∀ u∈hs,u∈G)/\∀ u∈hs,0<=u/\u<(free.length:Int)/\((hs.count u:Nat):Int)<=dN ((free[u.toNat]?).getD V3.zero) g.need:=by
 constructor
 .intro h;obtain ⟨h1,i⟩:=P2 h;refine ⟨h1,?_,i⟩;unfold uQ at h;rw [if_pos h1,Ga] at h;obtain ⟨G,f,h⟩:=h;unfold chkG at h;rw [Af] at h;exact ⟨G,f,zV.1 h.1⟩
 .intro ⟨h1,⟨G,f,i⟩,h3⟩;unfold uQ;rw [if_pos h1,Ga];refine ⟨G,f,?_⟩;unfold chkG;rw [zV.2 i,Bw];unfold IL;rw [Cb];intro u j;obtain ⟨a,b,d⟩:=h3 u j;unfold aGj;rw [if_neg q_,if_neg q_];have e:E4 u hs=((hs.count u:Nat):Int):=by unfold E4;rw [DM];omega
  rw [e];simp;omega
def aEi{free need:V3}{n:Int}(f:bH need=true)(h1:1<=n)(e:n<=16):n<=dN free need↔need.a*n<=free.a/\need.b*n<=free.b/\need.c*n<=free.c:=by
 constructor
 .exact wX f h1
 .intro ⟨a,b,d⟩;obtain ⟨k,g,hd⟩:=cN f;have key:∀ x y:Int,0<=x->x*n<=y->x<=y:=λ x y i h=>by have:x*1<=x*n:=Kv h1 i;omega
  have j:dC need free=true:=CB.2 ⟨key _ _ k.1 a,key _ _ g.1 b,key _ _ hd.1 d⟩;exact (AT f j n).2 ⟨e,a,b,d⟩
structure am(g:Gan):Prop where
 v:bH g.need=true
 pods:1<=g.pods/\g.pods<=16
 lev:0<=g.pref/\g.pref<=g.lev/\g.lev<=3
 run:1<=g.run/\g.run<=1048576
 id:1<=g.id
def iT{c:Con}{g:Gan}(h:fU c g=0):am g:=by obtain ⟨h1,_⟩:=rY.1 h;unfold P6 at h1;simp only [Af,decide_eq_true_eq] at h1;exact ⟨h1.2.1,by omega,by omega,by omega,by omega⟩
def wN(p:V3->Int)(c:Con)(l:a6):Prop:=∀ j:Nat,j<c.hs.length->cI (l.map (AI p (j:Int)))<=p (bQ c.hs (j:Int)).c
def aL9(c:Con)(r:Rn):Prop:=(r.hs.length:Int)=r.g.pods/\(∃ G∈gpL c r.g.lev,∀ u∈r.hs,u∈G)/\∀ u∈r.hs,0<=u/\u<(c.hs.length:Int)
structure HstOK(c:Con)(l:a6):Prop where
 a:wN V3.a c l
 b:wN V3.b c l
 d:wN V3.c c l
def wN.filter{p:V3->Int}{c:Con}{l:a6}(q:Rn->Bool)(b:∀ v,bH v=true->0<=p v)(d:∀ x∈l,am x.g)(h:wN p c l):wN p c (l.filter q):=λ j a=>
 Ds (GR q λ x e=>Lh (b _ (d x e).v) o_) (h j a)
def HstOK.filter{c:Con}{l:a6}(q:Rn->Bool)(f:∀ x∈l,am x.g)(h:HstOK c l):HstOK c (l.filter q):=
 ⟨h.a.filter q (λ_ e=>(cN e).1.1) f,h.b.filter q (λ_ e=>(cN e).2.1.1) f,h.d.filter q (λ_ e=>(cN e).2.2.1) f⟩
def aOr{c:Con}{l:a6}(t:cJ c=0)(m:∀ x∈l,am x.g)(hd:(l.map λ x=>x.g.id).Nodup)(k:HstOK c l){r:Rn}(n:r∈l)(hp:aL9 c r):uQ c (lT c (l.filter λ x=>!(x.g.id==r.g.id))) r.g r.hs=true:=by
 obtain ⟨C,D,w⟩:=hp;refine UL.2 ⟨C,D,λ u s=>?_⟩;obtain ⟨B,z⟩:=w u s;rw [BJ];refine ⟨B,z,?_⟩;have q:=m r n;have o:0<r.hs.count u:=Lk.2 s;have y:r.hs.count u<=r.hs.length:=Na;have F:=q.pods;refine (aEi q.v o_ o_).2 ?_
 obtain ⟨j,rfl⟩:∃ j:Nat,u=(j:Int):=⟨u.toNat,by omega⟩
 have i:j<c.hs.length:=o_;have key:∀ p:V3->Int,Prj p->(∀ v,bH v=true->0<=p v/\p v<=1048576)->wN p c l->p r.g.need*((r.hs.count (j:Int):Nat):Int)<=p (((lT c (l.filter λ x=>!(x.g.id==r.g.id)))[(j:Int).toNat]?).getD V3.zero):=λ p hp h hs=>by rw [Br,aAI hp (λ j i=>h _ (YM t i)) (λ x A=>h _ (m x (Fm.1 A).1).v) i];have h1:=hs j i;rw [ZH (f:=AI p (j:Int)) n hd] at h1;have e:AI p (j:Int) r=p r.g.need*((r.hs.count (j:Int):Nat):Int):=rfl;rw [<-e];omega
 exact ⟨key _ aEM (λ_ h=>(cN h).1) k.a,key _ aEL (λ_ h=>(cN h).2.1) k.b,key _ aEK (λ_ h=>(cN h).2.2) k.d⟩
def wN.more{p:V3->Int}{c:Con}{l:a6}{x:Rn}(hp:Prj p)(k:cJ c=0)(d:∀ v,bH v=true->0<=p v/\p v<=1048576)(o:∀ free need (n:Int),bH need=true->1<=n->n<=dN free need->p need*n<=p free)(m:∀ y∈l,am y.g)(b:am x.g)
  (f:∀ u∈x.hs,((x.hs.count u:Nat):Int)<=dN (((lT c l)[u.toNat]?).getD V3.zero) x.g.need) (h:wN p c l):wN p c (l++[x]):=by
 intro j a;rw [QX];have q:=h j a;have e:AI p (j:Int) x=p x.g.need*((x.hs.count (j:Int):Nat):Int):=rfl;by_cases hm:(j:Int)∈x.hs
 .have i:0<x.hs.count (j:Int):=Lk.2 hm;have h1:=o _ _ _ b.v o_ (f _ hm);rw [Br,aAI hp (λ j a=>d _ (YM k a)) (λ x b=>d _ (m x b).v) a,<-e] at h1;have hz:0<=AI p (j:Int) x:=Lh (d _ b.v).1 o_;unfold cD at h1;omega
 .rw [e,Li.2 hm];simp;omega
def HstOK.more{c:Con}{l:a6}{x:Rn}(j:cJ c=0)(k:∀ y∈l,am y.g)(m:am x.g)(f:∀ u∈x.hs,((x.hs.count u:Nat):Int)<=dN (((lT c l)[u.toNat]?).getD V3.zero) x.g.need)(h:HstOK c l):HstOK c (l++[x]):=
 ⟨h.a.more aEM j (λ_ e=>(cN e).1) (λ_ _ _ e h1 i=>(wX e h1 i).1) k m f,h.b.more aEL j (λ_ e=>(cN e).2.1) (λ_ _ _ e h1 i=>(wX e h1 i).2.1) k m f,h.d.more aEK j (λ_ e=>(cN e).2.2) (λ_ _ _ e h1 i=>(wX e h1 i).2.2) k m f⟩
def yJ(c:Con)(l:a6):Prop:=∀ i:Nat,i<c.ns.length->dC (atV (ofL c l) (i:Int)) (tZ c (i:Int))=true
def aI3{s:Sta}:RT s=true↔yJ s.c s.run:=by unfold RT yJ;rw [Cb];exact ⟨λ h i a=>h i (Hx.2 a),λ h i a=>h i (Hx.1 a)⟩
def am.dem{g:Gan}(h:am g):(dem g).pos:=aK4 h.v ⟨by have:=h.pods;omega,h.pods.2⟩
def yJ.filter{c:Con}{l:a6}(q:Rn->Bool)(b:∀ x∈l,am x.g)(h:yJ c l):yJ c (l.filter q):=λ i a=>
 jO.2 ((aAd (λ x d=>(b x d).dem) q (i:Int)).2.1.trans (jO.1 (h i a)))
def yJ.more{c:Con}{l:a6}{x:Rn}(m:∀ y∈l,am y.g)(j:am x.g)(hm:EX c (ofL c l) x.g.ten (Go.Proofs.YtidhfoefaomodaaGreatDoor.dem x.g)=true)(hl:bL c.ns x.g.ten=true)(h:yJ c l):yJ c (l++[x]):=by
 intro i f;by_cases hp:(i:Int)∈gR c.ns x.g.ten
 .have h1:=(RS (λ y k=>(m y k).dem) j.dem hm _ hp).2;have e:aAh c x.g.ten (i:Int)=tZ c (i:Int):=by
   unfold aAh tZ;by_cases b:(i:Int)=x.g.ten
   .rw [if_pos b,b,if_pos hl]
   .rw [if_neg b,if_neg];intro d;unfold gR at hp;rw [Hy] at hp;exact b (aAm d hp)
  rw [<-e];exact h1
 .have e:atV (ofL c (l++[x])) (i:Int)=atV (ofL c l) (i:Int):=by
   have a:c.ok (i:Int):=⟨by omega,by simpa using f⟩
   rw [D7 a,D7 a,Jt];show sR c _ _ x=_;unfold sR;rw [if_neg];intro n;exact hp (by unfold gR;rw [Hy];simpa using n.2)
  rw [e];exact h i f
def LM:∀ {l ns:bc} {i:Nat},nK ns i l=true->∀ k (h:k<l.length),rT (rlB ns ((i+k:Nat):Int)) (i+k) l[k]=true
 | [],_,_,_,k,h=>absurd h (Nat.not_lt_zero _)
 | x::l,ns,i,h0,k,h=>by
  unfold nK at h0;by_cases a:rT (rlB ns i) i x=true
  .rw [if_pos a] at h0;cases k with
   | zero=>exact a
   | succ k=>
    have:=LM h0 k (by simpa using h);rw [show i+1+k=i+(k+1) from by omega] at this;exact this
  .rw [if_neg a] at h0;cases h0
def wK{c:Con}(h:cJ c=0):ET c/\nK c.ns 0 c.ns=true/\c.hs.all nP=true:=by
 unfold cJ at h;split at h
 .split at h
  .split at h
   .exact ⟨by assumption,by assumption,by assumption⟩
   .omega
  .omega
 .omega
def wS{v:V3}(h:bH v=true):v.pos:=by obtain ⟨a,b,d⟩:=cN h;exact ⟨a.1,b.1,d.1⟩
def SK{c:Con}(h:cJ c=0){i:Nat}(d:i<c.ns.length):(cZ c.ns (i:Int)).n.pos/\(cZ c.ns (i:Int)).b.pos:=by
 have h1:=LM (wK h).2.1 i d;have e:cZ c.ns (i:Int)=c.ns[i]:=by unfold cZ;rw [Br,Ac d];rfl
 rw [e];unfold rT at h1;have a:∀ v:V3,zB v=true->v.pos:=λ v f=>by unfold zB at f;simp at f;exact ⟨by omega,by omega,by omega⟩
 split at h1
 .cases h1
 .split at h1
  .simp only [Af] at h1;exact ⟨wS h1.1,wS h1.2.1⟩
  .simp only [Af] at h1;exact ⟨a _ h1.1,a _ h1.2.1⟩
def aEG{c:Con}(h:cJ c=0):yJ c []:=by
 intro i j
 have g:c.ok (i:Int):=⟨by omega,by simpa using j⟩
 rw [D7 g];have hs:∀ p:V3->Int,Prj p->(∀ v:V3,v.pos->0<=p v)->0<=p (tZ c (i:Int)):=λ p hp k=>by
  have b:0<=p (lY c.ns (i:Int) (uJ c.ns))/\p (lY c.ns (i:Int) (uJ c.ns))<=cD:=by
   unfold lY;have hz:=hp.zero;have a:∀ e∈(bI c.ns (i:Int)).map λ t=>p (atV (uJ c.ns) t),0<=e:=λ e m=>by
    obtain ⟨t,l,rfl⟩:=Ce.1 m;have f:=nY c (i:Int) t l;rw [aFc f];have d:t=(t.toNat:Int):=by have:=f.1;omega
    rw [d];exact k _ (SK h f.2).1
   rw [FE hp,hz,rK (Dc _) d_ a];have:=kS a;unfold cD;omega
  unfold tZ;split
  .rw [hp.add];have h1:=k _ (SK h j).2;rw [pF b.1 b.2 h1];unfold cD;omega
  .exact b.1
 exact jO.2 ⟨hs _ aEM λ_ h=>h.1,hs _ aEL λ_ h=>h.2.1,hs _ aEK λ_ h=>h.2.2⟩
def aCo{c:Con}{free:a8}{g:Gan}(A:1<=g.pods)(hl:0<=g.pref/\g.pref<=g.lev/\g.lev<=3){x:Int×ax}(h:BN c free g=some x):(bQ c.hs (x.2.headD 0)).f=x.1:=by
 have d:∀ (j:List ax),fdG c free g j=some x->∃ a∈j,x=((bQ c.hs (a.headD 0)).f,inL free g a)/\¬ ((inL free g a).length:Int)<g.pods:=λ j=>by
  induction j with
  | nil=>intro h;cases h
  | cons a r k=>
   intro h;unfold fdG at h;by_cases h1:((inL free g a).length:Int)<g.pods
   .rw [if_pos (decide_eq_true h1)] at h;obtain ⟨q,o,p⟩:=k h;exact ⟨q,Av _ o,p⟩
   .rw [if_neg (by rw [decide_eq_false h1];decide)] at h;cases h;exact ⟨a,Ao ..,rfl,h1⟩
 have e:∀ (n:Nat) (lv:Int),fdL c free g n lv=some x->∃ b,lv<=b/\b<lv+n/\fdG c free g (gpL c b)=some x:=λ n=>by
  induction n with
  | zero=>intro lv h;cases h
  | succ n k=>
   intro lv h;unfold fdL at h;cases i:fdG c free g (gpL c lv) with
   | some y=>
    rw [i] at h;cases h;exact ⟨lv,Dc _,by omega,i⟩
   | none=>
    rw [i] at h;obtain ⟨b,o,p,z⟩:=k (lv+1) h;exact ⟨b,by omega,by omega,z⟩
 unfold BN at h;obtain ⟨b,l1,l2,w⟩:=e _ _ h;obtain ⟨a,v,rfl,s⟩:=d _ w;have l:(inL free g a).headD 0∈a:=by
  have hm:(inL free g a).headD 0∈inL free g a:=by
   cases i:inL free g a with
   | nil=>rw [i] at s;simp at s;omega
   | cons y t=>exact Ao ..
  rcases WZ a [] _ hm with h | h
  .cases h
  .exact h.1
 obtain ⟨_,u⟩:=PC (c:=c) (lv:=b) o_ o_;have m:=(QB o_ o_).1 ((u a v).2.2 _ l).2.2;unfold uL ofK at m;exact (Bg m).1.symm
abbrev Srt(l:a7):Prop:=l.Pairwise λ a b=>a.seq<b.seq
structure RunP(c:Con)(now:Int)(l:a6):Prop where
 time:∀ r∈l,r.at'<=r.st/\r.st<=now/\now<eZ r/\(bQ c.hs (r.hs.headD 0)).f=r.fl
 plc:∀ r∈l,aL9 c r
 hst:HstOK c l
 quo:yJ c l
def aBm(c:Con)(nxt now:Int)(x:Pn):Prop:=fU c x.g=0/\(bM c [] x.g).isNone=false/\(0<=x.seq/\x.seq<nxt)/\0<=x.at'/\x.at'<=now
structure OkS(s:Sta):Prop where
 head:iU s.c=true\/cJ s.c=0
 now:0<=s.now/\s.now<=1099511627776
 nxt:1<=s.nxt/\s.nxt<=1099511627776
 hist:s.hist.length=s.c.ns.length
 few:s.pend.length+s.run.length<=32
 row:Srt s.pend
 gang:∀ x∈s.pend++s.run.map Rn.pn,aBm s.c s.nxt s.now x
 ids:((s.pend++s.run.map Rn.pn).map λ x=>x.g.id).Nodup
 seqs:((s.pend++s.run.map Rn.pn).map λ x=>x.seq).Nodup
 run:RunP s.c s.now s.run
def ZN{l:a7}:(l.map Pn.q).Pairwise (λ a b=>a.seq<b.seq)↔Srt l:=by rw [Ge];exact Nq
def aIR{l:a7}(h:(l.map λ x=>x.g.id).Nodup):aEg l=true↔Srt l:=by
 unfold aEg;rw [Q2.check_good];constructor
 .exact λ g=>ZN.1 g.seq
 .refine λ g=>⟨ZN.2 g,?_⟩
  rw [Ge];unfold Lm at h;rw [Ge] at h;exact h
def aAp(p:Q2.Pend):∀ {l:List Q2.Pend},l.Pairwise (λ a b=>a.seq<b.seq)->(∀ x∈l,x.seq≠p.seq)->(Q2.insP p l).Pairwise (λ a b=>a.seq<b.seq)/\∀ x∈Q2.insP p l,x=p\/x∈l
 | [],_,_=>⟨Jj _ _,λ x c=>.inl (Dp.1 c)⟩
 | y::r,h,hn=>by
  rw [Ck] at h;unfold Q2.insP;by_cases d:p.seq<y.seq
  .rw [if_pos d];refine ⟨Ck.2 ⟨λ z hz=>?_,Ck.2 h⟩,λ x c=>Aw.1 c⟩;rcases Aw.1 hz with rfl | hz
   .exact d
   .have:=h.1 z hz;omega
  .rw [if_neg d];obtain ⟨h1,e⟩:=aAp p h.2 λ x c=>hn x (Av _ c);have f:=hn y (Ao ..);refine ⟨Ck.2 ⟨λ z hz=>?_,h1⟩,λ x c=>?_⟩
   .rcases e z hz with rfl | hz
    .omega
    .exact h.1 z hz
   .rcases Aw.1 c with rfl | c
    .exact .inr (Ao ..)
    .rcases e x c with rfl | c
     .exact .inl rfl
     .exact .inr (Av _ c)
def Z4{l:a7}{p:Pn}(h:Srt l)(b:∀ x∈l,x.seq≠p.seq):Srt (nA l p):=by refine ZN.1 ?_;rw [aEJ,Q2.putP_ins];refine (aAp p.q (ZN.2 h) λ x c=>?_).1;obtain ⟨y,a,rfl⟩:=Ce.1 c;exact b y a
def QU{l:a7}{a:Int}(h:Srt l):Srt (dZ l a):=by
 unfold dZ;split
 .exact h
 .exact h.sublist (List.eraseIdx_sublist ..)
structure SizOK(c:Con):Prop where
 ns:c.ns.length<=12
 hs:c.hs.length<=24
 half:0<=c.half/\c.half<=1048576
 age:0<=c.age/\c.age<=1048576
def DD{c:Con}:iU c=true↔c=⟨[],[],0,0⟩:=by obtain ⟨a,b,d,e⟩:=c;unfold iU;simp
def BF{c:Con}(h:iU c=true\/cJ c=0):SizOK c:=by
 rcases h with h | h
 .rw [DD] at h;subst h;exact ⟨by simp,by simp,by decide,by decide⟩
 .have h1:=(wK h).1;unfold ET at h1;exact ⟨by omega,by omega,by omega,by omega⟩
def XP{c:Con}(h:iU c=true)(g:Gan):fU c g≠0:=by rw [DD] at h;subst h;intro e;have h1:=(rY.1 e).2;unfold bL at h1;simp at h1;omega
def H2{c:Con}(h:iU c=true\/cJ c=0){g:Gan}(a:fU c g=0):cJ c=0:=h.resolve_left λ e=>XP e g a
def aND(s:Sta):ids s=(s.pend++s.run.map Rn.pn).map λ x=>x.g.id:=by unfold ids;rw [Bq,Ef];rfl
def aIC(s:Sta):seqs s=(s.pend++s.run.map Rn.pn).map λ x=>x.seq:=by unfold seqs;rw [Bq,Ef];rfl
def aER{s:Sta}{p:Pn}:pnB s p=true↔aBm s.c s.nxt s.now p:=by unfold pnB aBm;simp only [Af,decide_eq_true_eq,Df]
def FW{s:Sta}(h:OkS s):pI s=true:=by have a:=h.ids;rw [Bq,Cd] at a;unfold pI TH;simp only [Af,Fl,decide_eq_true_eq,Cb];refine ⟨⟨h.head,h.now,h.nxt,h.hist,h.few⟩,(aIR a.1).2 h.row,⟨λ p hp=>aER.2 (h.gang p (Cf _ hp)),λ r b=>?_⟩,by rw [aND];exact h.ids,by rw [aIC];exact h.seqs,aI3.2 h.run.quo⟩;have c:=h.gang r.pn (Ct _ (Cq b));refine ⟨aER.2 c,?_⟩;obtain ⟨f,g,e,d⟩:=h.run.time r b;unfold rnB;simp only [Af,decide_eq_true_eq];have hd:=a.2.1;rw [Ef] at hd;exact ⟨⟨⟨f,g⟩,e⟩,aOr (H2 h.head c.1) (λ x i=>iT (h.gang x.pn (Ct _ (Cq i))).1) hd h.run.hst b (h.run.plc r b),d⟩
def OkS.base{s:Sta}(h:OkS s):Base s where
 c:=⟨by have:=(BF h.head).ns;omega,by have:=(BF h.head).hs;omega⟩
 ids:=h.ids
 seqs:=h.seqs
 few:=by rw [Ai,Cm];have:=h.few;omega
 gang x hx:=by have hn:=iT (h.gang x hx).1;have:=hn.pods;have:=hn.id;exact ⟨by omega,hn.v,by omega⟩
def QQ(s:Sta){l:a7}(h:(l.map λ x=>x.seq).Nodup):Tot (ltP s) l:=by unfold Tot;unfold Lm at h;rw [Ge] at h;exact h.imp λ h=>aJE s h
def OkS.st{s:Sta}(h:OkS s)(hl:LtF s.hist):StOK s:=by
 have hz:=BF h.head;have h1:=hz.ns;have j:=hz.hs;have h3:=hz.half;have k:=hz.age;have i:=h.hist;have f:=h.few;have l:=h.nxt
 have b:Sm s.run:=⟨by omega,λ x d=>by
  have:=(h.run.plc x d).1;have:=(iT (h.gang x.pn (Ct _ (Cq d))).1).pods;have e:x.pn.g=x.g:=rfl;rw [e] at this
  omega⟩
 have a:=h.seqs;rw [Bq,Cd] at a;exact ⟨h.base.c,⟨h.base,⟨by omega,by omega,by omega,b,by omega⟩,⟨h.base.c,h1,hl,by omega,h.now,by omega⟩,λ p hp=>(h.gang p (Cf _ hp)).2.2.2.1,QQ s a.1⟩,by omega,by omega⟩
def RunP.filter{c:Con}{now:Int}{l:a6}(q:Rn->Bool)(b:∀ x∈l,am x.g)(h:RunP c now l):RunP c now (l.filter q):=
 ⟨λ r a=>h.time r (Fm.1 a).1,λ r a=>h.plc r (Fm.1 a).1,h.hst.filter q b,h.quo.filter q b⟩
def OkS.needs{s:Sta}(h:OkS s):∀ x∈s.run,am x.g:=λ x a=>iT (h.gang x.pn (Ct _ (Cq a))).1
def OkS.part{s:Sta}(h:OkS s){pend:a7}{run:a6}{rest:a7}(hp:((pend++run.map Rn.pn)++rest).Perm (s.pend++s.run.map Rn.pn))(hs:Srt pend)(hr:RunP s.c s.now run):OkS {s with pend:=pend,run:=run} where
 head:=h.head
 now:=h.now
 nxt:=h.nxt
 hist:=h.hist
 few:=by have h1:=hp.length_eq;have h2:=h.few;simp only [Ai,Cm] at h1;show pend.length+run.length<=32;omega
 row:=hs
 gang x hx:=h.gang x (hp.mem_iff.1 (Cf _ hx))
 ids:=by have h1:=((hp.map λ x=>x.g.id).nodup_iff).2 h.ids;rw [Bq,Cd] at h1;exact h1.1
 seqs:=by have h1:=((hp.map λ x=>x.seq).nodup_iff).2 h.seqs;rw [Bq,Cd] at h1;exact h1.1
 run:=hr
def IO{α:Type}(q:α->Bool):∀ (l:List α),(l.filter q++l.filter λ x=>!q x).Perm l
 | []=>Jr _
 | x::l=>by
  have b:=IO q l;by_cases a:q x=true
  .rw [Gb a,Fc (by rw [a];decide)];exact b.cons x
  .rw [Fc a,Gb (by simpa using a)];exact Ey.trans (b.cons x)
def OkS.wo{s:Sta}(h:OkS s)(q:Rn->Bool):OkS {s with run:=s.run.filter q}:=by refine h.part (pend:=s.pend) (run:=s.run.filter q) (rest:=(s.run.filter λ x=>!q x).map Rn.pn) ?_ h.row (h.run.filter q h.needs);rw [Ag,<-Bq];exact Eb _ ((IO q s.run).map _)
def OkS.take{s:Sta}(h:OkS s)(a:Int):OkS {s with pend:=dZ s.pend a}:=by
 have b:=h.run;rcases FT a s.pend with ⟨_,e⟩ | ⟨A,p,B,c,f,d⟩
 .have:dZ s.pend a=s.pend:=by unfold dZ;rw [if_pos o_]
  rw [this];exact h
 .have e:dZ s.pend a=A++B:=by unfold dZ;rw [if_neg o_,d,c];show (A++p::B).eraseIdx A.length=_;rw [Jl (Bh _),Mo];rfl
  refine h.part (pend:=dZ s.pend a) (run:=s.run) (rest:=[p]) ?_ (QU h.row) b;rw [e,c];refine Ee.trans ?_;show (p::((A++B)++_)).Perm _;rw [Ag,Ag];exact Ey.symm
structure RK(s:Sta)(r:Rd):Prop where
 row:Srt r.s.pend
 run:RunP s.c s.now r.s.run
def ai.gangA{s:Sta}{r:Rd}{rest:a7}(o:OkS s)(h:ai s r rest):∀ x∈r.s.pend++r.s.run.map Rn.pn,aBm s.c s.nxt s.now x:=λ x a=>o.gang x (h.perm.mem_iff.1 a)
def ai.needs{s:Sta}{r:Rd}{rest:a7}(o:OkS s)(h:ai s r rest):∀ x∈r.s.run,am x.g:=λ x a=>iT (h.gangA o x.pn (Ct _ (Cq a))).1
def RK.adm{s:Sta}{r:Rd}{p:Pn}{rest:a7}(o:OkS s)(h:ai s r (p::rest))(k:RK s r){x:Int×ax}(e:bM r.s.c r.s.run p.g=some x):RK s (U9 r p x.1 x.2):=by
 have hp:=h.gangA o p (Cf _ (h.sub p (Ao ..)));have b:=iT hp.1;have i:=H2 o.head hp.1;rw [h.c] at e;unfold bM at e;split at e
 .rename_i hm;obtain ⟨w,q⟩:=aGl b.v b.pods.1 b.lev e;have m:=aCo b.pods.1 b.lev e;obtain ⟨l,j,n⟩:=UL.1 q;have d:=h.needs o;refine ⟨QU k.row,⟨λ y a=>?_,λ y a=>?_,?_,?_⟩⟩
  .rcases Bd.1 a with a | a
   .exact k.run.time y a
   .rw [Dp.1 a];have:=hp.2.2.2;have:=b.run;have:=o.now;refine ⟨by show p.at'<=r.s.now;rw [h.now];omega,by show r.s.now<=s.now;rw [h.now];omega,?_,m⟩;have t:=h.now;unfold eZ;dsimp only;split
    .omega
    .split<;>omega
  .rcases Bd.1 a with a | a
   .exact k.run.plc y a
   .rw [Dp.1 a];exact ⟨l,j,λ u f=>by have:=n u f;rw [BJ] at this;exact ⟨this.1,this.2.1⟩⟩
  .exact k.run.hst.more i d b λ u f=>(w u f).2.2
  .exact k.run.quo.more d b hm (rY.1 hp.1).2
 .cases e
def TT(run:a6):∀ (ids:ax) (r:Rd),Srt r.s.pend->((ids.map (λ id=>(xOf run id).pn)++r.s.pend).map λ x=>x.seq).Nodup->Srt (ids.foldl (dQ run) r).s.pend
 | [],_,h,_=>h
 | id::ids,r,h,hn=>by
  rw [Bb];have hp:=CV r.s.pend (xOf run id).pn;rw [Bj,Bu,Bj,Cl] at hn;refine TT run ids (dQ run r id) (Z4 h λ x a e=>hn.1 ?_) ?_
  .have e:x.seq=(xOf run id).pn.seq:=e;rw [<-e];exact Cq (Ct _ a)
  .have h1:(ids.map (λ id=>(xOf run id).pn)++(dQ run r id).s.pend).Perm ((xOf run id).pn::(ids.map (λ id=>(xOf run id).pn)++r.s.pend)):=(Eb _ hp).trans Ey;refine ((h1.map λ x=>x.seq).nodup_iff).2 ?_;rw [Bj,Cl];exact hn
def RK.evic{s:Sta}{r:Rd}{rest:a7}(o:OkS s)(h:ai s r rest)(k:RK s r){ids:ax}(c:ids.Nodup)(a:∀ id∈ids,0<=bA (cK id) r.s.run 0):RK s (nG r ids):=by
 refine ⟨TT r.s.run ids r k.row ?_,k.run.filter _ (h.needs o)⟩;have h1:=(R8 (h.once o.base) c a).map Rn.pn;rw [Bq,Ef] at h1;have b:((ids.map (λ id=>(xOf r.s.run id).pn)++r.s.pend)++(aH r.s.run ids).map Rn.pn).Perm (s.pend++s.run.map Rn.pn):=by refine Mt ?_ h.perm;refine (Dz _ Ee).trans ?_;rw [Ag];exact Eb _ h1
 have h3:=((b.map λ x=>x.seq).nodup_iff).2 o.seqs;rw [Bq,Cd] at h3;exact h3.1
def RK.admR{s:Sta}{r:Rd}{p:Pn}{rest:a7}(o:OkS s)(h:ai s r (p::rest))(k:RK s r):RK s (Go.Proofs.YtidhfoefaomodaaGreatDoor.admR r p).1:=by
 unfold Go.Proofs.YtidhfoefaomodaaGreatDoor.admR;cases a:bM r.s.c r.s.run p.g with
 | none=>exact k
 | some x=>
  obtain ⟨fl,hs⟩:=x;unfold xX;dsimp only;split
  .exact k
  .exact k.adm o h a
def RK.look{s:Sta}{r:Rd}{p:Pn}{rest:a7}(o:OkS s)(h:ai s r (p::rest))(k:RK s r):RK s (bU r p):=by
 unfold bU;split
 .exact k.admR o h
 .rename_i i;split
  .exact k
  .rename_i l;have d:r.head=false:=by cases b:r.head with | false=>rfl | true=>exact absurd b l
   have a:bM r.s.c r.s.run p.g=none:=by
    cases j:bM r.s.c r.s.run p.g with
    | none=>rfl
    | some x=>
     obtain ⟨fl,hs⟩:=x;refine absurd ?_ i;unfold Go.Proofs.YtidhfoefaomodaaGreatDoor.admR;rw [j];unfold xX;dsimp only;rw [d];rfl
   cases b:gM r.s.c r.s.run p.g with
   | none=>
    show RK s (rL r p _);cases vI r.s.c r.s.now r.s.run p.g with
    | none=>exact k
    | some n=>exact ⟨k.row,k.run⟩
   | some ids=>
    obtain ⟨_,f,_,e,_⟩:=xM o.base h a b;exact (k.evic o h f e).admR o (h.evic o.base f e)
def LG{s:Sta}(o:OkS s):∀ (L:a7) (r:Rd),KU s r L->RK s r->RK s (L.foldl bU r)
 | [],_,_,k=>k
 | p::L,r,h,k=>LG o L (bU r p) (wY o.base r p L h) (k.look o h.1)
def OkS.round{s:Sta}(o:OkS s)(hl:LtF s.hist):OkS (dE s).s:=by
 have hst:=(o.st hl).run.start;have h1:=(vP o.base (xQ s) _ hst).1;have f:=LG o (xQ s) _ hst ⟨o.row,o.run⟩;have e:(dE s).s={s with pend:=(dE s).s.pend,run:=(dE s).s.run}:=by have a:=h1.c;have b:=h1.now;have c:=h1.nxt;have d:=h1.hist;change (dE s).s.c=s.c at a;change (dE s).s.now=s.now at b;change (dE s).s.nxt=s.nxt at c;change (dE s).s.hist=s.hist at d;rw [<-a,<-b,<-c,<-d]
 rw [e];refine o.part (rest:=[]) ?_ f.row f.run;rw [Ar];exact h1.perm
def VY{s:Sta}(o:OkS s)(hl:LtF s.hist):(dE s).s.hist=s.hist/\(dE s).s.nxt=s.nxt/\(dE s).s.c=s.c/\(dE s).s.now=s.now:=by have h1:=(vP o.base (xQ s) _ (o.st hl).run.start).1;exact ⟨h1.hist,h1.nxt,h1.c,h1.now⟩
def aMr(h b:az)(n half:Int):LtF (tkL h b n half):=by
 unfold tkL;have key:∀ (l:az) (i:Nat),LtF (fB (tkS b n half) l i):=λ l=>by
  induction l with
  | nil=>intro i x a;cases a
  | cons y l c=>
   intro i x a;rcases Aw.1 a with rfl | a
   .unfold tkS;split
    .exact aBl _ _
    .exact OW _ _
   .exact c (i+1) x a
 exact key h 0
def OkS.tick{s:Sta}(o:OkS s)(n:Int):OkS (kR s n).1/\(kR s n).1.nxt=s.nxt:=by
 unfold kR;split
 .exact ⟨o,rfl⟩
 .split
  .exact ⟨o,rfl⟩
  .have c:=o.wo λ x=>decide (s.now+n<eZ x);have h:=o.now;refine ⟨⟨c.head,⟨by show 0<=s.now+n;omega,by show s.now+n<=_;omega⟩,c.nxt,?_,c.few,c.row,λ x i=>?_,c.ids,c.seqs,⟨λ r g=>?_,c.run.plc,c.run.hst,c.run.quo⟩⟩,rfl⟩
   .show (tkL _ _ _ _).length=_;unfold tkL;rw [mG];exact o.hist
   .obtain ⟨a,b,d,e,f⟩:=c.gang x i;exact ⟨a,b,d,e,by show x.at'<=s.now+n;have f:x.at'<=s.now:=f;omega⟩
   .obtain ⟨a,b,d,e⟩:=c.run.time r g;have hd:=(Fm.1 g).2;exact ⟨a,by show r.st<=s.now+n;have b:r.st<=s.now:=b;omega,of_decide_eq_true hd,e⟩
def OkS.conf{s:Sta}(o:OkS s){c:Con}(d:cJ c=0)(h:¬ 0<s.pend.length+s.run.length):OkS {s with c:=c,hist:=Aj c.ns.length 0}:=by have hp:s.pend=[]:=Cv.1 o_;have b:s.run=[]:=Cv.1 o_;obtain ⟨g,now,nxt,pend,run,hist⟩:=s;dsimp only at hp b;subst hp b;refine ⟨.inr d,o.now,o.nxt,by simp,by simp,Lp,λ x f=>(by cases f),Hz,Hz,⟨λ r b=>(by cases b),λ r b=>(by cases b),?_,aEG d⟩⟩;have key:∀ p:V3->Int,(∀ v,bH v=true->0<=p v)->wN p c []:=λ p a j e=>a _ (YM d e);exact ⟨key _ λ_ a=>(cN a).1.1,key _ λ_ a=>(cN a).2.1.1,key _ λ_ a=>(cN a).2.2.1⟩
def aCq{a:Int}{l:a7}(h:lU a l<0):∀ p∈l,p.g.id≠a:=by
 rcases FT a l with ⟨h1,_⟩ | ⟨A,p,B,_,_,h1⟩
 .exact h1
 .omega
def OkS.submit{s:Sta}(o:OkS s)(n:s.nxt<1099511627776)(g:Gan):OkS (eW s g).1/\(eW s g).1.nxt<=s.nxt+1/\s.nxt<=(eW s g).1.nxt:=by
 unfold eW;iterate 4 (split;· exact ⟨o,by show s.nxt<=s.nxt+1;omega,Dc _⟩)
 rename_i h1 p h3 m;have h1:fU s.c g=0:=Fs.1 h1;refine ⟨?_,Dc _,by show s.nxt<=s.nxt+1;omega⟩;have hp:=CV s.pend ⟨g,s.nxt,s.now⟩;have h:(nA s.pend ⟨g,s.nxt,s.now⟩++s.run.map Rn.pn).Perm (⟨g,s.nxt,s.now⟩::(s.pend++s.run.map Rn.pn)):=Dz _ hp;have i:=o.now;have l:=o.nxt;refine ⟨o.head,o.now,⟨by show 1<=s.nxt+1;omega,by show s.nxt+1<=_;omega⟩,o.hist,?_,Z4 o.row λ x f e=>?_,λ x f=>?_,?_,?_,o.run⟩
 .have:=hp.length_eq;rw [Ak] at this;show (nA s.pend _).length+s.run.length<=32;omega
 .have:=(o.gang x (Cf _ f)).2.2.1;have e:x.seq=s.nxt:=e;omega
 .rcases Aw.1 (h.mem_iff.1 f) with rfl | f
  .refine ⟨h1,by cases k:(bM s.c [] g).isNone with | true=>exact absurd k h3 | false=>rfl,⟨by show 0<=s.nxt;omega,by show s.nxt<s.nxt+1;omega⟩,i.1,Dc _⟩
  .obtain ⟨a,b,d,e⟩:=o.gang x f;exact ⟨a,b,⟨d.1,by show x.seq<s.nxt+1;omega⟩,e⟩
 .refine ((h.map λ x=>x.g.id).nodup_iff).2 (Cl.2 ⟨λ hm=>?_,o.ids⟩);obtain ⟨x,f,e⟩:=Ce.1 hm;have e:x.g.id=g.id:=e;rcases Bd.1 f with f | f
  .exact aCq o_ x f e
  .obtain ⟨r,j,rfl⟩:=Ce.1 f;have:=IM s.run 0 r j e;omega
 .refine ((h.map λ x=>x.seq).nodup_iff).2 (Cl.2 ⟨λ hm=>?_,o.seqs⟩);obtain ⟨x,f,e⟩:=Ce.1 hm;have:=(o.gang x f).2.2.1;have e:x.seq=s.nxt:=e;omega
structure OkT(s:Sta):Prop where
 ok:OkS s
 lt:LtF s.hist
def OkT.apply{s:Sta}(o:OkT s)(e:s.nxt<1099511627776)(x:Cmd):OkT (aC s x).1/\(aC s x).1.nxt<=s.nxt+1/\s.nxt<=(aC s x).1.nxt:=by
 have same:OkT s/\s.nxt<=s.nxt+1/\s.nxt<=s.nxt:=⟨o,by omega,Dc _⟩
 unfold aC;split
 .exact same
 split
 .split
  .exact same
  .rename_i d;split
   .exact same
   .rename_i b;refine ⟨⟨o.ok.conf (Fs.1 d) b,λ y c=>?_⟩,same.2⟩;have:=List.eq_of_mem_replicate c;omega
 split
 .obtain ⟨h1,a⟩:=o.ok.submit e x.g;refine ⟨⟨h1,?_⟩,a⟩;have:(eW s x.g).1.hist=s.hist:=by
   unfold eW;iterate 4 (split;· rfl)
   rfl
  rw [this];exact o.lt
 split
 .obtain ⟨h1,a⟩:=o.ok.tick x.n;refine ⟨⟨h1,?_⟩,by rw [a];exact same.2⟩;unfold kR;split
  .exact o.lt
  .split
   .exact o.lt
   .exact aMr _ _ _ _
 split
 .obtain ⟨h1,a,_⟩:=VY o.ok o.lt;refine ⟨⟨o.ok.round o.lt,?_⟩,?_⟩
  .show LtF (dE s).s.hist;rw [h1];exact o.lt
  .show (dE s).s.nxt<=_/\_<=(dE s).s.nxt;rw [a];exact same.2
 split
 .exact ⟨⟨o.ok.wo _,o.lt⟩,same.2⟩
 split
 .exact same
 .exact ⟨⟨o.ok.take _,o.lt⟩,same.2⟩
def AL:OkT cA:=by
 refine ⟨⟨.inl d_,by decide,by decide,rfl,by decide,Lp,λ x b=>(by cases b),Hz,Hz,⟨λ r a=>(by cases a),λ r a=>(by cases a),⟨?_,?_,?_⟩,?_⟩⟩,λ x b=>(by cases b)⟩
 all_goals exact λ j c=>absurd c (Nat.not_lt_zero _)
def two(a:Int)(b:Int)(x:Rn):Bool:=!((x.g.id==a)||(x.seq==b))
structure FairP(s:Sta):Prop where
 few:aQs s.c s.now s.run=1
 pend:s.pend.length<=32
 row:aEg s.pend=true
 hist:s.hist.length=s.c.ns.length
 gang:∀ p∈s.pend,aLV s.c.ns p.g≠0/\0<=p.at'/\p.at'<=s.now
 two:∀ p∈s.pend,∀ x∈s.run,x.g.id≠p.g.id/\x.seq≠p.seq
 once:s.run.Pairwise λ a b=>a.g.id≠b.g.id/\a.seq≠b.seq
structure FairS(s:Sta):Prop where
 siz:SizOK s.c
 chk:iU s.c=true\/cJ s.c=0
 now:0<=s.now/\s.now<=1099511627776
 nxt:1<=s.nxt/\s.nxt<=1099511627776
 few:s.pend.length+s.run.length<=32
 hist:s.hist.length=s.c.ns.length
 row:Srt s.pend
 ids:((s.pend++s.run.map Rn.pn).map λ x=>x.g.id).Nodup
 seqs:((s.pend++s.run.map Rn.pn).map λ x=>x.seq).Nodup
 need:∀ x∈s.pend++s.run.map Rn.pn,am x.g
 at':∀ p∈s.pend,0<=p.at'/\p.at'<=s.now
 hs:∀ x∈s.run,x.hs.length<=16
def FairS.base{s:Sta}(h:FairS s):Base s where
 c:=⟨by have:=h.siz.ns;omega,by have:=h.siz.hs;omega⟩
 ids:=h.ids
 seqs:=h.seqs
 few:=by rw [Ai,Cm];have:=h.few;omega
 gang x hx:=by have hn:=h.need x hx;have:=hn.pods;have:=hn.id;exact ⟨by omega,hn.v,by omega⟩
def FairS.sm{s:Sta}(h:FairS s):Sm s.run:=⟨by have:=h.few;omega,λ x a=>by have:=h.hs x a;omega⟩
def FairS.st{s:Sta}(h:FairS s)(hl:LtF s.hist):StOK s:=by have h1:=h.siz.ns;have e:=h.siz.hs;have h3:=h.siz.half;have f:=h.siz.age;have d:=h.hist;have b:=h.few;have g:=h.nxt;have a:=h.seqs;rw [Bq,Cd] at a;exact ⟨h.base.c,⟨h.base,⟨by omega,by omega,by omega,h.sm,by omega⟩,⟨h.base.c,h1,hl,by omega,h.now,by omega⟩,λ p hp=>(h.at' p hp).1,QQ s a.1⟩,by omega,by omega⟩
def FairS.tick{s:Sta}(h:FairS s)(n:Int):FairS (kR s n).1:=by
 unfold kR;split
 .exact h
 .split
  .exact h
  .have c:=h.now;have a:(atL s.run (s.now+n)).Sublist s.run:=Jb;have hm:(s.pend++(atL s.run (s.now+n)).map Rn.pn).Sublist (s.pend++s.run.map Rn.pn):=List.Sublist.append (Ju _) (a.map _);refine ⟨h.siz,h.chk,⟨by show 0<=s.now+n;omega,by show s.now+n<=_;omega⟩,h.nxt,?_,?_,h.row,h.ids.sublist (hm.map _),h.seqs.sublist (hm.map _),λ x b=>h.need x (hm.subset b),λ p hp=>⟨(h.at' p hp).1,by have:=(h.at' p hp).2;show p.at'<=s.now+n;omega⟩,λ x b=>h.hs x (a.subset b)⟩
   .have:=a.length_le;have:=h.few;show s.pend.length+(atL _ _).length<=32;omega
   .show (tkL _ _ _ _).length=_;unfold tkL;rw [mG];exact h.hist
def Ev.eqb(x y:Ev):Bool:=(x.k==y.k)&&((x.id==y.id)&&((x.n==y.n)&&true))
def Ev.eqb_eq{x y:Ev}:x.eqb y=true↔x=y:=by obtain ⟨_,_,_⟩:=x;obtain ⟨_,_,_⟩:=y;simp [Ev.eqb]
def Pn.eqb(x y:Pn):Bool:=(x.g.id==y.g.id)&&((x.g.ten==y.g.ten)&&((x.g.pods==y.g.pods)&&((x.g.need.a==y.g.need.a)&&((x.g.need.b==y.g.need.b)&&((x.g.need.c==y.g.need.c)&&((x.g.run==y.g.run)&&((x.g.lev==y.g.lev)&&((x.g.pref==y.g.pref)&&((x.seq==y.seq)&&((x.at'==y.at')&&true))))))))))
def Pn.eqb_eq{x y:Pn}:x.eqb y=true↔x=y:=by obtain ⟨⟨_,_,_,⟨_,_,_⟩,_,_,_⟩,_,_⟩:=x;obtain ⟨⟨_,_,_,⟨_,_,_⟩,_,_,_⟩,_,_⟩:=y;simp [Pn.eqb,and_assoc]
def aW(n:Int):Cmd:=⟨5,E3,Gan.zero,n⟩
open Go.ChangeShapes Go.WideShapes Go.ChangeAt Go.RowKit
set_option maxRecDepth 100000
def aHq{H:Type}(d:DataW H):1<=Rows.uptoBulk d:=by
 cases d with
 | lit l=>cases l<;>simp [Rows.uptoBulk]
 | _=>simp [Rows.uptoBulk]
def DR{H:Type}{d:DataW H}:∀ {l:List (DataW H)},d∈l->Rows.uptoBulk d<=Rows.uptoBulkAll l
 | [],h=>by cases h
 | x::r,h=>by
  simp only [Rows.uptoBulkAll];rcases Aw.1 h with rfl | h
  .omega
  .have:=DR h;omega
def US{H:Type}:∀ (l:List (DataW H)),l.length<=Rows.uptoBulkAll l
 | []=>by simp
 | x::r=>by have:=aHq x;have:=US r;simp only [Rows.uptoBulkAll,Ak];omega
def EF(H:Type)(N:Nat):Bulk H N (λ d=>Rows.uptoBulk d<=N) where
 str l h:=by simp only [Rows.uptoBulk] at h;omega
 sl e r h:=by simp only [Rows.uptoBulk] at h;have:=US e;exact ⟨by omega,λ d hd=>by have:=DR hd;omega⟩
 agg l h:=by simp only [Rows.uptoBulk] at h;exact λ d hd=>by have:=DR hd;omega
section
variable {N:Nat}
def aMo{n:Nat}{cs:ay}(h:TyN Tryz.prog N (n+1) 3 cs):∃ m:Int,cs=[ii m]/\ -9223372036854775808<=m/\m<=9223372036854775807:=by unfold TyN at h;rw [Tryz.underlying3] at h;obtain ⟨m,h,h1,a⟩:=h;simp only [dA,bN] at h1 a;exact ⟨m,h,by omega,by omega⟩
def fM{n:Nat}{cs:ay}(h:TyN Tryz.prog N (n+1) 3 cs):∃ m:Int,cs=[ii m]:=by unfold TyN at h;rw [Tryz.underlying3] at h;obtain ⟨m,h,_⟩:=h;exact ⟨m,h⟩
def QT{n:Nat}{cs:ay}(h:TyN Tryz.prog N (n+2) 43 cs):∃ v:V3,cs=v.cs:=by
 unfold TyN at h;rw [Tryz.underlying43] at h;obtain ⟨xs,hl,d,rfl⟩:=h
 match xs,hl,d with
 | [x,y,z],_,d=>
  obtain ⟨a,rfl⟩:=fM (d x s_);obtain ⟨b,rfl⟩:=fM (d y s_);obtain ⟨c,rfl⟩:=fM (d z s_);exact ⟨⟨a,b,c⟩,rfl⟩
def aMq{n:Nat}{cs:ay}(h:TyN Tryz.prog N (n+3) 45 cs):∃ g:Gan,cs=g.cs:=by unfold TyN at h;rw [Tryz.underlying45] at h;obtain ⟨u,r,rfl,c,x,r,rfl,h1,o,r,rfl,j,w,r,rfl,h3,s,r,rfl,i,p,r,rfl,d,q,r,rfl,b,rfl⟩:=h;obtain ⟨l,rfl⟩:=fM c;obtain ⟨a,rfl⟩:=fM h1;obtain ⟨e,rfl⟩:=fM j;obtain ⟨v,rfl⟩:=QT h3;obtain ⟨k,rfl⟩:=fM i;obtain ⟨m,rfl⟩:=fM d;obtain ⟨f,rfl⟩:=fM b;exact ⟨⟨l,a,e,v,k,m,f⟩,rfl⟩
def B8{α:Type}{av:α->aa}{P:aa->Prop}{Q:α->Prop}(b:∀ x,P x->∃ p:α,x=av p/\Q p):∀ (xs:ay),(∀ x∈xs,P x)->∃ l:List α,xs=l.map av/\∀ p∈l,Q p
 | [],_=>⟨[],rfl,λ p h=>by cases h⟩
 | x::xs,h=>by
  obtain ⟨p,rfl,hp⟩:=b x (h x s_);obtain ⟨l,rfl,hl⟩:=B8 b xs λ x c=>h x (by simp [c])
  exact ⟨p::l,rfl,λ q a=>by
   rcases Aw.1 a with rfl | a
   .exact hp
   .exact hl q a⟩
end
section
variable {N:Nat}
def aMn{n:Nat}{cs:ay}(h:TyN Tryz.prog N (n+3) 179 cs):∃ x:Nod,cs=x.cs:=by unfold TyN at h;rw [Tryz.underlying179] at h;obtain ⟨i,r,rfl,b,k,r,rfl,h1,f,r,rfl,d,j,r,rfl,h3,g,r,rfl,c,rfl⟩:=h;obtain ⟨e,rfl⟩:=fM b;obtain ⟨a,rfl⟩:=fM h1;obtain ⟨u,rfl⟩:=QT d;obtain ⟨v,rfl⟩:=QT h3;obtain ⟨w,rfl⟩:=QT c;exact ⟨⟨e,a,u,v,w⟩,rfl⟩
def aMp{n:Nat}{cs:ay}(h:TyN Tryz.prog N (n+3) 182 cs):∃ x:Hos,cs=x.cs:=by unfold TyN at h;rw [Tryz.underlying182] at h;obtain ⟨g,r,rfl,c,j,r,rfl,h1,f,r,rfl,e,i,r,rfl,h3,rfl⟩:=h;obtain ⟨d,rfl⟩:=fM c;obtain ⟨a,rfl⟩:=fM h1;obtain ⟨b,rfl⟩:=fM e;obtain ⟨v,rfl⟩:=QT h3;exact ⟨⟨d,a,b,v⟩,rfl⟩
def aH9{n:Nat}{cs:ay}(h:TyN Tryz.prog N (n+4) 23 cs):∃ l:bc,cs=[.slice 11 (nav l) .no]/\l.length<=N:=by
 unfold TyN at h;rw [Tryz.underlying23] at h;obtain ⟨xs,rfl,b,a⟩:=h;have c:Tryz.prog.cellsOf 179=11:=by kernel_rfl
 obtain ⟨l,rfl,hl⟩:=B8 (av:=Nod.av) (Q:=λ x=>True) (P:=λ x=>x∈xs) (λ x hm=>by
  obtain ⟨cs,rfl⟩:=(a x hm).2.1 (by kernel_rfl);obtain ⟨p,hp⟩:=aMn (n:=n) (a _ hm).1
  exact ⟨p,by unfold Nod.av;rw [<-hp];rfl,trivial⟩) xs λ x hm=>hm
 exact ⟨l,by rw [c],by simpa using b⟩
def aIa{n:Nat}{cs:ay}(h:TyN Tryz.prog N (n+4) 24 cs):∃ l:List Hos,cs=[.slice 6 (hav l) .no]/\l.length<=N:=by
 unfold TyN at h;rw [Tryz.underlying24] at h;obtain ⟨xs,rfl,b,a⟩:=h;have c:Tryz.prog.cellsOf 182=6:=by kernel_rfl
 obtain ⟨l,rfl,hl⟩:=B8 (av:=Hos.av) (Q:=λ x=>True) (P:=λ x=>x∈xs) (λ x hm=>by
  obtain ⟨cs,rfl⟩:=(a x hm).2.1 (by kernel_rfl);obtain ⟨p,hp⟩:=aMp (n:=n) (a _ hm).1
  exact ⟨p,by unfold Hos.av;rw [<-hp];rfl,trivial⟩) xs λ x hm=>hm
 exact ⟨l,by rw [c],by simpa using b⟩
def aOL{n:Nat}{cs:ay}(h:TyN Tryz.prog 1048576 (n+5) 26 cs):∃ c:Con,cs=c.cs/\c.sm:=by unfold TyN at h;rw [Tryz.underlying26] at h;obtain ⟨i,r,rfl,a,k,r,rfl,h1,g,r,rfl,f,j,r,rfl,h3,rfl⟩:=h;obtain ⟨ns,rfl,e⟩:=aH9 (n:=n) a;obtain ⟨hs,rfl,l1⟩:=aIa (n:=n) h1;obtain ⟨d,rfl⟩:=fM f;obtain ⟨b,rfl⟩:=fM h3;exact ⟨⟨ns,hs,d,b⟩,rfl,⟨e,l1⟩⟩
end
structure StaSm(s:Sta):Prop where
 c:s.c.sm
 pend:s.pend.length<=1048576
 run:Sm s.run
 hist:s.hist.length<=1048576
 fix:∀ x∈s.hist,x<18446744073709551616
structure CmSm(x:Cmd):Prop where
 c:x.c.sm
 n: -9223372036854775808<=x.n/\x.n<=9223372036854775807
def D0{n:Nat}{cs:ay}(h:TyN Tryz.prog 1048576 (n+6) 58 cs):∃ x:Cmd,cs=x.cs/\CmSm x:=by unfold TyN at h;rw [Tryz.underlying58] at h;obtain ⟨f,r,rfl,a,j,r,rfl,h1,e,r,rfl,d,i,r,rfl,h3,rfl⟩:=h;obtain ⟨k,rfl⟩:=fM a;obtain ⟨c,rfl,b⟩:=aOL (n:=n) h1;obtain ⟨g,rfl⟩:=aMq (n:=n+2) d;obtain ⟨m,rfl,hm⟩:=aMo h3;exact ⟨⟨k,c,g,m⟩,rfl,b,hm⟩
section
variable {H:Type} {enc:TypeId×Value->H} {W:World} {r:Reach} {base b0:Nat} {spare:Nat->Bool} {held:Bool} {v:Value} {d:DataW H} {ps:List MemPlace}
end
end Go.Proofs.YtidhfoefaomodaaGreatDoor
