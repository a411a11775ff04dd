/- Part 10 of what the statement rests on. -/
import Derived.Test.YtenkdioaefckoaaGreatDoorRows
import Derived.Test.YtenkdioaefckoaaGreatDoorDP
set_option linter.all false
set_option maxHeartbeats 2000000
open Go.AW.Res renaming ret->Io
open Go.AW.St renaming head->G0
open Go.AW.Tk renaming no->J0
open Go.AW.aa renaming agg->He,bool->DA,int->GE,ref->G2,slice->CA,tup->GT
open Go.AW.ab renaming cells->Do,tail->Fr
open Go.IntKind renaming i64->Is,u64->IH
open List renaming length->Z
open Bool renaming true->O,false->S
open Option renaming some->X,none->U
open And renaming intro->Aa
open Bool renaming and_eq_true->Af
open Decidable renaming byContradiction->Ll,not_not->Ds
open Int renaming le_refl->Ei,mul_nonneg->Ji,toNat_natCast->Bm
open List renaming Nodup->Mm,all_eq_true->Ck,any_eq_true->Fq,append_assoc->Ag,append_nil->Ap,count_pos_iff->Lh,drop_eq_getElem_cons->Ac,drop_eq_nil_of_le->Ae,drop_zero->Bz,filter_cons->Gw,filter_cons_of_neg->Fs,filter_cons_of_pos->Ft,foldl_cons->Ao,getElem_mem->Av,length_append->Ah,length_cons->Al,length_eq_zero_iff->Ch,length_map->Cb,length_pos_iff->Dp,map_append->Bh,map_cons->Bg,map_map->Dx,mem_append->Bx,mem_append_left->Dh,mem_append_right->Cx,mem_cons->Ba,mem_cons_of_mem->Az,mem_cons_self->Aw,mem_filter->Fh,mem_map->Co,mem_map_of_mem->Cn,mem_singleton->Dl,nodup_append->Du,nodup_cons->Ce,nodup_nil->Hu,pairwise_cons->Bp,pairwise_map->Gj,perm_append_comm->Dv,perm_middle->Fu,replicate->Ak,take_append_drop->Bl
open List.Pairwise renaming imp->Jn,nil->Lo
open List.Perm renaming append_left->Dm,append_right->Dt,refl->Fc,trans->Mo
open List.cons renaming inj->Fm
open Nat renaming le_add_right->Ik,le_succ->Jg,le_trans->Cl,mul_le_mul->Eb
namespace Go.Proofs.YtenkdioaefckoaaGreatDoor
open Go.Proofs.Tryz
open Go Go.AW Go.Proofs
set_option maxRecDepth 10000
def zqya0{P:Prop}(h:P:=by
 refine eA (Er [] [120,132,133]) f83 2 λ_=>?_
 exact zW):P:=h
def zqya1{P:Prop}(h:P:=by
 obtain⟨k,c,g,n⟩:=x;dsimp only at a;subst a
 exact c_ f97 λ_=>zW):P:=h
def zqya2{P:Prop}(h:P:=by
 refine eA E f99 1 λ_=>?_
 exact zW):P:=h
def zqya3{P:Prop}(h:P:=by exact c_ f13 λ_=>zW):P:=h
def zqya4{P:Prop}(h:P:=by
 have b:rav (s.run++[⟨p.g,p.seq,p.at',s.now,x.1,x.2⟩])=rav s.run++[Rn.av ⟨p.g,p.seq,p.at',s.now,x.1,x.2⟩]:=by simp
 unfold rdS rdO rdC ruV at a;dsimp only at a;rw[b]at a;generalize dI s.pend p.g.id=pq at*
 clear b e;refine eA (Er [] [60,64,86,87,88]) f232 3 λ_=>?_
 exact zW):P:=h
def zqya5{P:Prop}(h:P:=by
 refine gA (Eo [7] []) f38 λ_=>?_
 exact zW):P:=h
def zqya6{P:Prop}(h:P:=by exact c_ f87 λ_=>zW):P:=h
def zqya7{P:Prop}(h:P:=by exact c_ f37 λ_=>zW):P:=h
def zqya8{P:Prop}(h:P:=by
 refine eA (Er [] [39,40,59,60,61,62,63,64]) f162 3 λ_=>?_
 exact zW):P:=h
def zqya9{P:Prop}(h:P:=by exact c_ f15 λ_=>zW):P:=h
def zqya10{P:Prop}(h:P:=by
 refine eA (Eo [6] []) f102 1 λ_=>?_
 exact zW):P:=h
def zqya11{P:Prop}(h:P:=by
 have h1:=C8.rcheck_any x 0 b;obtain⟨k,c,g,n⟩:=x;dsimp only at a;subst a
 exact zqya3):P:=h
def zqya12{P:Prop}(h:P:=by
 rw[Ae o_]at a;have a: -1=r:=a;subst a;refine gV ?_
 exact zW):P:=h
def zqya13{P:Prop}(h:P:=by
 refine eA (Er [] [60,64,86,87,88]) f232 3 λ_=>?_
 exact zW):P:=h
def zqya14{P:Prop}(h:P:=by
 intro i a q r b;rw[Ae o_]at b;have b:a++[]=R:=b;rw[Ap]at b;subst b;refine gV ?_
 exact zW):P:=h
def zqya15{P:Prop}(h:P:=by
 refine eA (Er [] [24,38]) f98 1 λ_=>?_
 exact zW):P:=h
def zqya16{P:Prop}(h:P:=by
 rw[bt (by rw[c];decide)]at a;rw[c]at g;have next:=e a
 refine gV ?_
 exact zW):P:=h
def zqya17{P:Prop}(h:P:=by
 refine aLC ?_;conv=>whnf;(try conv=>whnf)
 refine aLC ?_;conv=>whnf;(try conv=>whnf)
 exact zW):P:=h
def zqya18{P:Prop}(h:P:=by
 rw[d]at n;rw[kW d]at b;have next:=h (i+1) a o_ o_ b
 refine gV ?_
 exact zW):P:=h
def zqya19{P:Prop}(h:P:=by
 unfold bH;rw[C];unfold AH;dsimp only;rw[K]
 rfl):P:=h
def zqya20{P:Prop}(h:P:=by
 refine eA E f100 2 λ_=>?_
 exact zW):P:=h
def zqya21{P:Prop}(h:P:=by
 generalize bH r p=r2 at*
 refine gV ?_
 exact zW):P:=h
def zqya22{P:Prop}(h:P:=by
 have d:S=r:=d;subst d
 exact zqya9):P:=h
def zqya23{P:Prop}(h:P:=by exact c_ f60 λ_=>zW):P:=h
def zqya24{P:Prop}(h:P:=by
 rw[bu c]at a;rw[c]at g;subst a;refine gV ?_
 exact zW):P:=h
def zqya25{P:Prop}(h:P:=by
 rw[Ae o_,Ae o_]at c;have c:O=r:=c;subst c;refine gV ?_
 exact zW):P:=h
def OF(l:bc)(h:Z l<=1048576):bj 136 [CA 11 (nav l) J0] (CA 11 (nav l) J0):=by
 have a:Z (nav l)=Z l:=by simp
 refine c_ f136 λ_=>gV ?_;intro b c;refine gV ?_;refine⟨λh=>?_,λh=>?_⟩
 .have h:b=true:=h;have e:nav l=[]:=c h;refine gV ?_;rw[e]
 .have h:b=false:=h;exact zW
def OG(l:List Hos)(h:Z l<=1048576):bj 137 [CA 6 (hav l) J0] (CA 6 (hav l) J0):=by
 have a:Z (hav l)=Z l:=by simp
 refine c_ f137 λ_=>gV ?_;intro b c;refine gV ?_;refine⟨λh=>?_,λh=>?_⟩
 .have h:b=true:=h;have e:hav l=[]:=c h;refine gV ?_;rw[e]
 .have h:b=false:=h;exact zW
def YG(l:ba)(h:Z l<=1048576):bj 138 [CA 11 (pnv l) J0] (CA 11 (pnv l) J0):=by
 have a:Z (pnv l)=Z l:=by simp
 refine c_ f138 λ_=>gV ?_;intro b c;refine gV ?_;refine⟨λh=>?_,λh=>?_⟩
 .have h:b=true:=h;have e:pnv l=[]:=c h;refine gV ?_;rw[e]
 .have h:b=false:=h;exact zW
def YH(l:a6)(h:Z l<=1048576):bj 139 [CA 1 (fv l) J0] (CA 1 (fv l) J0):=by
 have a:Z (fv l)=Z l:=by simp
 refine c_ f139 λ_=>gV ?_;intro b c;refine gV ?_;refine⟨λh=>?_,λh=>?_⟩
 .have h:b=true:=h;have e:fv l=[]:=c h;refine gV ?_;rw[e]
 .have h:b=false:=h;exact zW
abbrev AT(l:a7):aw:=[.row 0 14 85 (rav l)]
def aDU(l:a7)(hs:Sm l)(ids:ax)(o:Z ids<=1048576)(R:a7):∀(m i:Nat) (a:a7),i+m=Z l->Z a<=i->a++aB (l.drop i) ids=R->
  To (Er [5] []) f140 (.full 0 (Io (.row 0 0)) (AT R)) (BB f140 [(1,CA 1 (iv ids) J0),(5,.row 0 0),(8,CA 14 (rav l) J0),(9,GE Is (Z (rav l):Nat)),(10,ii i)] (AT a)):=by
 have k:Z (rav l)=Z l:=by simp
 have hl:=hs.1;intro m;induction m with
 |zero=>
  exact zqya14
 |succ m h=>
  intro i a q r b;have c:i<Z l:=o_;have j:=hs.at c;rw[Ac c]at b;generalize s:l[i]=x at b j;have get:(rav l)[i]? =X x.av:=(cB c).trans (by rw[s]);have p:Z (rav a)=Z a:=by simp
  have n:=AD ids o x.g.id;cases d:inB x.g.id ids with
  |true=>
   exact zqya18
  |false=>
   rw[d]at n;rw[kV d]at b;have next:=h (i+1) (a++[x]) o_ q_ (by rw[Ag];exact b)
   have e:rav (a++[x])=rav a++[x.av]:=by simp
   unfold AT at next
   rw[e]at next
   refine gV ?_;have f:=DB x j;exact zW
def aN1(l:a7)(hs:Sm l)(ids:ax)(a:Z ids<=1048576):ar 140 [CA 14 (rav l) J0,CA 1 (iv ids) J0] [] (Io (.row 0 0)) (AT (aB l ids)):=by have h1:=aDU l hs ids a _ (Z l) 0 [] o_ s_ rfl;refine eA (Er [5] []) f140 0 λ_=>?_;exact zW
def aI9(l:a7)(hs:Sm l):ar 140 [CA 14 (rav l) J0,.nilslice] [] (Io (.row 0 0)) (AT l):=by have h:=aN1 l hs [] s_;rw[eJ]at h;exact aA.nil2 h
abbrev QI:aw:=[Fr 0 14 85]
def aDW(l:a7)(hs:Sm l)(ids:ax)(o:Z ids<=1048576)(R:a7):∀(m i:Nat) (a:a7),i+m=Z l->Z a<=i->a++aB (l.drop i) ids=R->
  To (Eo [5] []) f140 (.full 0 (Io (CA 14 (rav R) (.own 0 0))) QI) (BB f140 [(1,CA 1 (iv ids) J0),(5,CA 14 (rav a) (.own 0 0)),(8,CA 14 (rav l) J0),(9,GE Is (Z (rav l):Nat)),(10,ii i)] QI):=by
 have k:Z (rav l)=Z l:=by simp
 have hl:=hs.1;intro m;induction m with
 |zero=>
  exact zqya14
 |succ m h=>
  intro i a q r b;have c:i<Z l:=o_;have j:=hs.at c;rw[Ac c]at b;generalize s:l[i]=x at b j;have get:(rav l)[i]? =X x.av:=(cB c).trans (by rw[s]);have p:Z (rav a)=Z a:=by simp
  have n:=AD ids o x.g.id;cases d:inB x.g.id ids with
  |true=>
   exact zqya18
  |false=>
   rw[d]at n;rw[kV d]at b;have next:=h (i+1) (a++[x]) o_ q_ (by rw[Ag];exact b)
   have e:rav (a++[x])=rav a++[x.av]:=by simp
   rw[e]at next
   refine gV ?_;have f:=DB x j;exact zW
def aDV(l:a7)(hs:Sm l)(ids:ax)(a:Z ids<=1048576):ar 140 [CA 14 (rav l) J0,CA 1 (iv ids) J0] [] (Io (CA 14 (rav (aB l ids)) (.own 0 0))) QI:=by have h1:=aDW l hs ids a _ (Z l) 0 [] o_ s_ rfl;refine eA (Eo [5] []) f140 0 λ_=>?_;exact zW
def aJa(l:a7)(hs:Sm l):ar 140 [CA 14 (rav l) J0,.nilslice] [] (Io (CA 14 (rav l) (.own 0 0))) QI:=by have h:=aDV l hs [] s_;rw[eJ]at h;exact aA.nil2 h
structure StaSm'(s:Sta):Prop where
 ns:Z s.c.ns<=1048576
 hs:Z s.c.hs<=1048576
 pend:Z s.pend<=1048576
 run:Sm s.run
 hist:Z s.hist<=1048576
def Sta.avR(s:Sta)(k g:Nat):aa:=He [CA 11 (nav s.c.ns) J0,CA 6 (hav s.c.hs) J0,ii s.c.half,ii s.c.age,ii s.now,ii s.nxt,CA 11 (pnv s.pend) J0,.row k g,CA 1 (fv s.hist) J0]
def Sta.avO(s:Sta)(k g:Nat):aa:=He [CA 11 (nav s.c.ns) J0,CA 6 (hav s.c.hs) J0,ii s.c.half,ii s.c.age,ii s.now,ii s.nxt,CA 11 (pnv s.pend) J0,CA 14 (rav s.run) (.own k g),CA 1 (fv s.hist) J0]
def aMR(s:Sta)(h:StaSm' s):ar 160 [s.av] [] (Io (s.avO 0 0)) QI:=by have h1:=OF s.c.ns h.ns;have a:=OG s.c.hs h.hs;have h3:=YG s.pend h.pend;have d:=YH s.hist h.hist;have b:=aJa s.run h.run;refine eA E f160 0 λ_=>?_;exact zW
def DF(s:Sta)(h:StaSm' s):ar 95 [s.av] [] (Io (s.avR 0 0)) (AT s.run):=by have h1:=OF s.c.ns h.ns;have a:=OG s.c.hs h.hs;have h3:=YG s.pend h.pend;have d:=YH s.hist h.hist;have b:=aI9 s.run h.run;refine eA E f95 0 λ_=>?_;exact zW
abbrev rdC(r:Rd)(run:aa)(ge:Nat):az:=[CA 11 (nav r.s.c.ns) J0,CA 6 (hav r.s.c.hs) J0,ii r.s.c.half,ii r.s.c.age,ii r.s.now,ii r.s.nxt,CA 11 (pnv r.s.pend) J0,run,CA 1 (fv r.s.hist) J0,CA 3 (evv r.ev) (.own 1 ge),DA r.head,ii r.start]
abbrev rdO(r:Rd)(run:aa)(ge:Nat):ab:=Do 252 (rdC r run ge)
abbrev evT(g:Nat):ab:=Fr g 3 82
abbrev ruT(g:Nat):ab:=Fr g 14 85
abbrev ruV(l:a7)(k g:Nat):aa:=CA 14 (rav l) (.own k g)
abbrev rdS(r:Rd)(ge gr:Nat):aw:=[rdO r (ruV r.s.run 2 gr) ge,evT ge,ruT gr]
def jX(r:Rd)(e:Ev):Rd:=⟨r.s,r.ev++[e],r.head,r.start⟩
def NE(r:Rd)(k id n:Int)(hl:Z r.ev<=1048576):ar 236 [G2 0 0,ii k,ii id,ii n] (rdS r 0 0) (Io (GT [])) (rdS (jX r ⟨k,id,n⟩) 1 0):=by
 have a:Z (evv r.ev)=Z r.ev:=by simp
 have e:evv (r.ev++[⟨k,id,n⟩])=evv r.ev++[Ev.av ⟨k,id,n⟩]:=by simp
 unfold jX;show aA _ _ _ _ _ [Do _ [_,_,_,_,_,_,_,_,_,CA 3 (evv (r.ev++[⟨k,id,n⟩])) (.own 1 1),_,_],_,_];rw[e];refine eA E f236 3 λ_=>?_;exact zW
def RH(r:Rd)(l:a7)(k id n:Int)(hl:Z r.ev<=1048576):ar 236 [G2 0 0,ii k,ii id,ii n] [rdO r (CA 14 (rav l) J0) 0,evT 0] (Io (GT [])) [rdO (jX r ⟨k,id,n⟩) (CA 14 (rav l) J0) 1,evT 1]:=by
 have a:Z (evv r.ev)=Z r.ev:=by simp
 have e:evv (r.ev++[⟨k,id,n⟩])=evv r.ev++[Ev.av ⟨k,id,n⟩]:=by simp
 unfold jX;show aA _ _ _ _ _ [Do _ [_,_,_,_,_,_,_,_,_,CA 3 (evv (r.ev++[⟨k,id,n⟩])) (.own 1 1),_,_],_];rw[e];refine eA E f236 2 λ_=>?_;exact zW
def qH{n a:Nat}(h:n<=1048576)(b:a<=1000):A8 (n+1) a:=Aa (by simp only[maxLen];omega) (Cl (Eb (show n+1<=1048577 by omega) b) d_)
def aTr(r:Rd)(p:Pn)(a:bj 213 [r.s.c.av,CA 14 (rav r.s.run) J0,p.g.av] (fdA U)):
  ar 232 [G2 0 0,p.av] (rdS r 0 0) (Io (DA S)) (rdS r 0 0):=by
 obtain⟨s,ev,head,start⟩:=r;exact zqya13
def aTt(s:Sta)(ev:bh)(start:Int)(p:Pn)(x:Int×ax)(a:bj 213 [s.c.av,CA 14 (rav s.run) J0,p.g.av] (fdA (X x)))
  (hm:bj 289 [ii s.now,p.g.av,ii start] (DA S)):
  ar 232 [G2 0 0,p.av] (rdS ⟨s,ev,O,start⟩ 0 0) (Io (DA S)) (rdS ⟨s,ev,O,start⟩ 0 0):=by
 exact zqya13
def aTq(s:Sta)(ev:bh)(start:Int)(p:Pn)(x:Int×ax)(h:bj 213 [s.c.av,CA 14 (rav s.run) J0,p.g.av] (fdA (X x)))(j:Z ev<=1000000)(hp:Z s.pend<=1000000)(d:Z (rav s.run)<=1048576)
  (hm:bj 289 [ii s.now,p.g.av,ii start] (DA O)):
  ar 232 [G2 0 0,p.av] (rdS ⟨s,ev,O,start⟩ 0 0) (Io (DA O)) (rdS (xQ ⟨s,ev,O,start⟩ p x.1 x.2) 1 1):=by
 have e:xQ ⟨s,ev,O,start⟩ p x.1 x.2=jX ⟨{s with pend:=dI s.pend p.g.id,run:=s.run++[⟨p.g,p.seq,p.at',s.now,x.1,x.2⟩]},ev,O,start⟩ ⟨1,p.g.id,x.1⟩:=rfl;have a:=NE ⟨{s with pend:=dI s.pend p.g.id,run:=s.run++[⟨p.g,p.seq,p.at',s.now,x.1,x.2⟩]},ev,O,start⟩ 1 p.g.id x.1 (by show Z ev<=_;omega);have i:=tJ s.pend p.g.id hp;rw[e];generalize jX ⟨{s with pend:=dI s.pend p.g.id,run:=s.run++[⟨p.g,p.seq,p.at',s.now,x.1,x.2⟩]},ev,O,start⟩ ⟨1,p.g.id,x.1⟩=r2 at*
 exact zqya4
def aTs(s:Sta)(ev:bh)(start:Int)(p:Pn)(x:Int×ax)(d:bj 213 [s.c.av,CA 14 (rav s.run) J0,p.g.av] (fdA (X x)))(j:Z ev<=1000000)(hp:Z s.pend<=1000000)(h:Z (rav s.run)<=1048576):
  ar 232 [G2 0 0,p.av] (rdS ⟨s,ev,S,start⟩ 0 0) (Io (DA O)) (rdS (xQ ⟨s,ev,S,start⟩ p x.1 x.2) 1 1):=by
 have hm:=d;have e:xQ ⟨s,ev,S,start⟩ p x.1 x.2=jX ⟨{s with pend:=dI s.pend p.g.id,run:=s.run++[⟨p.g,p.seq,p.at',s.now,x.1,x.2⟩]},ev,S,start⟩ ⟨1,p.g.id,x.1⟩:=rfl;have a:=NE ⟨{s with pend:=dI s.pend p.g.id,run:=s.run++[⟨p.g,p.seq,p.at',s.now,x.1,x.2⟩]},ev,S,start⟩ 1 p.g.id x.1 (by show Z ev<=_;omega);have i:=tJ s.pend p.g.id hp;rw[e];generalize jX ⟨{s with pend:=dI s.pend p.g.id,run:=s.run++[⟨p.g,p.seq,p.at',s.now,x.1,x.2⟩]},ev,S,start⟩ ⟨1,p.g.id,x.1⟩=r2 at*
 exact zqya4
def UN(r:Rd)(p:Pn)(j:r.s.c.sm)(hs:Sm r.s.run)(hp:Z r.s.pend<=1000000)(h:Z r.ev<=1000000)(k:0<=p.g.pods/\p.g.pods<=16):
  (admR r p=(r,S)/\ar 232 [G2 0 0,p.av] (rdS r 0 0) (Io (DA S)) (rdS r 0 0))\/
  ((admR r p).2=O/\ar 232 [G2 0 0,p.av] (rdS r 0 0) (Io (DA O)) (rdS (admR r p).1 1 1)):=by
 have b:Z (rav r.s.run)<=1048576:=by simpa using hs.1
 have a:=zS r.s.c j r.s.run hs p.g k;have hm:=aM2 r.s.now p.g r.start;unfold admR;cases i:cE r.s.c r.s.run p.g with
 |none=>
  rw[i]at a;exact .inl ⟨rfl,aTr r p a⟩
 |some x=>
  rw[i]at a;obtain⟨s,ev,head,start⟩:=r;cases head with
  |false=>exact .inr ⟨rfl,aTs s ev start p x a h hp b⟩
  |true=>
   cases d:bmB s.now p.g start with
   |false=>
    have e:AH ⟨s,ev,O,start⟩ p (X x)=(⟨s,ev,O,start⟩,S):=by unfold AH;exact bu (by rw[d];rfl)
    rw[e];dsimp only at hm;rw[d]at hm;exact .inl ⟨rfl,aTt s ev start p x a hm⟩
   |true=>
    have e:AH ⟨s,ev,O,start⟩ p (X x)=(xQ ⟨s,ev,O,start⟩ p x.1 x.2,O):=by unfold AH;exact bt (by rw[d];simp)
    rw[e];dsimp only at hm;rw[d]at hm;exact .inr ⟨rfl,aTq s ev start p x a h hp b hm⟩
def bA(id:Int)(x:Rn):Bool:=x.g.id==id
abbrev idF(n:Nat)(id:Int):aa:=.func (.func n) [] [.ptr [ii id]]
def W5(n:Nat)(id:Int)(d:∀x:Rn,aA Tryz.prog n [x.av,.ptr [ii id]] [] (Io (DA (bA id x))) [])(l:a7)(hl:Z l<=1048576)(r:Int):∀(m i:Nat),i+m=Z l->aL (bA id) (l.drop i) i=r->
  BC E f211 (ii r) [(0,CA 14 (rav l) J0),(1,idF n id),(7,GE Is (Z (rav l):Nat)),(8,ii i)] []:=by
 have f:Z (rav l)=Z l:=by simp
 intro m;induction m with
 |zero=>
  intro i h a;exact zqya12
 |succ m e=>
  intro i h a;have b:i<Z l:=o_;rw[Ac b]at a;have get:(rav l)[i]? =X l[i].av:=cB b;generalize l[i]=x at a get;unfold aL at a;have g:=d x;have e:=e (i+1) o_;cases c:bA id x with
  |true=>
   exact zqya24
  |false=>
   exact zqya16
def GB(n:Nat)(id:Int)(a:∀x:Rn,aA Tryz.prog n [x.av,.ptr [ii id]] [] (Io (DA (bA id x))) [])(l:a7)(hl:Z l<=1048576):bj 211 [CA 14 (rav l) J0,idF n id] (ii (aL (bA id) l 0)):=by refine c_ f211 λ_=>gV ?_;exact To.cut [0,1,7,8] 0 rfl rfl rfl rfl (W5 n id a l hl _ (Z l) 0 o_ rfl)
def aBb(id:Int)(x:Rn):bj 297 [x.av,.ptr [ii id]] (DA (bA id x)):=by unfold bA;exact c_ f297 λ_=>zW
def I9(id:Int)(x:Rn):bj 212 [x.av,.ptr [ii id]] (DA (bA id x)):=by unfold bA;exact c_ f212 λ_=>zW
def nI(p:Rn->Bool):∀(l:a7) (i:Nat),aL p l i= -1\/((i:Int)<=aL p l i/\aL p l i<(i:Int)+Z l)
 |[],i=>.inl rfl
 |x::l,i=>by
  unfold aL;by_cases h:p x=O
  .rw [bu h];right;simp;omega
  .rw [bt h];rcases nI p l (i+1)with a|a
   .exact .inl a
   .right;simp;omega
abbrev evF(ids:ax)(i:Nat):au:=[(0,G2 0 0),(1,CA 1 (iv ids) J0),(8,CA 1 (iv ids) J0),(9,GE Is (Z (iv ids):Nat)),(10,ii i)]
abbrev evD(Q:Rd)(run:a7)(ids:ax):Rd:=⟨{Q.s with run:=aB run ids},Q.ev,Q.head,Q.start⟩
abbrev evG(Q:Rd)(run:a7)(ids:ax)(g:Nat):Goal:=.full 2 (Io (GT [])) [rdO (evD Q run ids) (ruV (aB run ids) 2 0) g,evT g,ruT 0]
abbrev evB(q:Rd)(run:a7)(g:Nat):aw:=[rdO q (CA 14 (rav run) J0) g,evT g]
def tK(l:ba)(p:Pn):Z (iZ l p)=Z l+1:=by unfold iZ;rw[Ah,Ah,List.length_singleton];have:=congrArg List.length (Bl (Q2.putAt p.q (l.map Pn.q)) l);rw[Ah]at this;omega
def aL7(run:a7)(hs:Sm run)(ids:ax)(p:Z ids<=1048576)(f:∀id∈ids,0<=aL (bA id) run 0)(Q:Rd):∀(m i:Nat) (q:Rd),i+m=Z ids->(ids.drop i).foldl (dL run) q=Q->Z q.s.pend+m<=1000000->Z q.ev+m<=1000000->
  To E f234 (evG Q run ids 1) (BB f234 (evF ids i) (evB q run 1)):=by
 intro m;induction m with
 |zero=>
  intro i q r b hp A;rw[Ae o_]at b;have b:q=Q:=b;subst b;have B:=aDV run hs ids p;have n:Z (iv ids)=Z ids:=by simp
  have w:evG q run ids 1= .full 2 (Io (GT [])) [rdO q (ruV (aB run ids) 2 0) 1,evT 1,ruT 0]:=rfl;rw[w];generalize aB run ids=rn at*
  exact tA
 |succ m u=>
  intro i q r b hp A;have d:i<Z ids:=o_;rw[Ac d,Ao]at b;have l:=f _ (Av d);have get:(iv ids)[i]? =X (ii ids[i]):=by simp[d]
  generalize ids[i]=id at b l get;have h1:=GB _ id (aBb id) run hs.1
  obtain⟨at',c⟩:∃a:Nat,aL (bA id) run 0=(a:Int):=⟨(aL (bA id) run 0).toNat,by omega⟩
  have j:at'<Z run:=by
   rcases nI (bA id) run 0 with h|h
   .omega
   .rw [c]at h;omega
  have C:=hD j;have k:dL run q id=jX ⟨{q.s with pend:=iZ q.s.pend (aH run at').pn},q.ev,q.head,q.start⟩ ⟨2,id,0⟩:=by
   have e:(aL (λx=>x.g.id==id) run 0).toNat=at':=by have z:aL (bA id) run 0=at':=c;have t:aL (λx=>x.g.id==id) run 0=aL (bA id) run 0:=rfl;rw[t,z];rfl
   unfold dL;rw[e];rfl
  rw[k]at b;rw[c]at h1;have v:=M6 q.s.pend (aH run at').pn o_;have h3:=RH ⟨{q.s with pend:=iZ q.s.pend (aH run at').pn},q.ev,q.head,q.start⟩ run 2 id 0 (by show Z q.ev<=_;omega);have next:=u (i+1) (jX ⟨{q.s with pend:=iZ q.s.pend (aH run at').pn},q.ev,q.head,q.start⟩ ⟨2,id,0⟩) o_ b (by show Z (iZ _ _)+m<=_;rw[tK];omega) (by show Z (q.ev++[_])+m<=_;simp;omega)
  generalize jX ⟨{q.s with pend:=iZ q.s.pend (aH run at').pn},q.ev,q.head,q.start⟩ ⟨2,id,0⟩=q2 at*
  generalize iZ q.s.pend (aH run at').pn=pq at*
  have o:(aH run at').pn=⟨(aH run at').g,(aH run at').seq,(aH run at').at'⟩:=rfl;rw[o]at v;generalize aH run at'=x at*
  have n:Z (iv ids)=Z ids:=by simp
  have y:Z (rav run)=Z run:=by simp
  clear k b f;exact tA
def aHF(r:Rd)(run:a7)(b:r.s.run=run)(hs:Sm run)(ids:ax)(B:Z ids<=1048576)(w:ids≠[])(d:∀id∈ids,0<=aL (bA id) run 0)(hp:Z r.s.pend+Z ids<=1000000)(M:Z r.ev+Z ids<=1000000):
  ar 234 [G2 0 0,CA 1 (iv ids) J0] (evB r run 0) (Io (GT [])) [rdO (gE r ids) (ruV (gE r ids).s.run 2 0) 1,evT 1,ruT 0]:=by
 have z:gE r ids=evD (ids.foldl (dL run) r) run ids:=by rw[<-b];rfl
 rw[z]
 obtain⟨Q,n⟩:∃Q,(ids.drop 0).foldl (dL run) r=Q:=⟨_,rfl⟩
 have o:ids.foldl (dL run) r=Q:=n;rw[o];have ev:=aL7 run hs ids B d Q;have u:0<Z ids:=Dp.2 w
 obtain⟨m,hm⟩:∃m,Z ids=m+1:=⟨Z ids-1,by omega⟩
 have F:(0:Nat)=0:=rfl;have key:To E f234 (evG Q run ids 1) (BB f234 (evF ids 0) (evB r run 0)):=by
  have hp:Z r.s.pend+(m+1)<=1000000:=o_;have M:Z r.ev+(m+1)<=1000000:=o_;have D:0+(m+1)=Z ids:=o_;clear o z b
  obtain⟨i,l⟩:∃i:Nat,i=0:=⟨_,rfl⟩
  have c:∀q,q=r->To E f234 (evG Q run ids 1) (BB f234 (evF ids i) (evB q run 0)):=by
   intro q K;subst K;rw[<-l]at n D;have H:=λq=>ev m (i+1) q o_;clear F ev l u;have k:i<Z ids:=o_;rw[Ac k,Ao]at n;have v:=d _ (Av k);have get:(iv ids)[i]? =X (ii ids[i]):=by simp[k]
   generalize ids[i]=id at n v get;have h1:=GB _ id (aBb id) run hs.1
   obtain⟨at',j⟩:∃a:Nat,aL (bA id) run 0=(a:Int):=⟨(aL (bA id) run 0).toNat,by omega⟩
   have p:at'<Z run:=by
    rcases nI (bA id) run 0 with h|h
    .omega
    .rw [j]at h;omega
   have N:=hD p;have t:dL run q id=jX ⟨{q.s with pend:=iZ q.s.pend (aH run at').pn},q.ev,q.head,q.start⟩ ⟨2,id,0⟩:=by
    have e:(aL (λx=>x.g.id==id) run 0).toNat=at':=by have L:aL (bA id) run 0=at':=j;have G:aL (λx=>x.g.id==id) run 0=aL (bA id) run 0:=rfl;rw[G,L];rfl
    unfold dL;rw[e];rfl
   rw[t]at n;rw[j]at h1;have I:=M6 q.s.pend (aH run at').pn o_;have h3:=RH ⟨{q.s with pend:=iZ q.s.pend (aH run at').pn},q.ev,q.head,q.start⟩ run 2 id 0 (by show Z q.ev<=_;omega);have next:=H (jX ⟨{q.s with pend:=iZ q.s.pend (aH run at').pn},q.ev,q.head,q.start⟩ ⟨2,id,0⟩)  n (by show Z (iZ _ _)+m<=_;rw[tK];omega) (by show Z (q.ev++[_])+m<=_;simp;omega)
   generalize jX ⟨{q.s with pend:=iZ q.s.pend (aH run at').pn},q.ev,q.head,q.start⟩ ⟨2,id,0⟩=q2 at*
   generalize iZ q.s.pend (aH run at').pn=pq at*
   have y:(aH run at').pn=⟨(aH run at').g,(aH run at').seq,(aH run at').at'⟩:=rfl;rw[y]at I;generalize aH run at'=x at*
   have C:Z (iv ids)=Z ids:=by simp
   have J:Z (rav run)=Z run:=by simp
   clear t n d;exact tA
  rw[l]at c;exact c r rfl
 refine eA E f234 2 λ_=>?_;exact zW
abbrev aDN(r:Rd)(p:Pn)(b:Bool)(As:aw):Prop:=ar 232 [G2 0 0,p.av] (rdS r 0 0) (Io (DA b)) As
abbrev nB(r:Rd)(p:Pn)(As:aw):Prop:=ar 162 [G2 0 0,p.av] (rdS r 0 0) (Io (GT [])) As
abbrev aQw(r:Rd)(p:Pn)(Q:Option ax):Prop:=bj 233 [r.s.c.av,CA 14 (rav r.s.run) J0,p.g.av] (chR Q)
abbrev aQ7(r:Rd)(p:Pn)(Q:Option Int):Prop:=bj 235 [r.s.c.av,ii r.s.now,CA 14 (rav r.s.run) J0,p.g.av] (stA Q)
def aGJ(r R:Rd)(p:Pn)(h1:aDN r p O (rdS R 1 1)):nB r p (rdS R 1 1):=by exact zqya8
def aRD(s:Sta)(ev:bh)(st:Int)(p:Pn)(h1:aDN ⟨s,ev,O,st⟩ p S (rdS ⟨s,ev,O,st⟩ 0 0)):nB ⟨s,ev,O,st⟩ p (rdS ⟨s,ev,O,st⟩ 0 0):=by exact zqya8
def aRC(s:Sta)(ev:bh)(p:Pn)(h1:aDN ⟨s,ev,S,0⟩ p S (rdS ⟨s,ev,S,0⟩ 0 0))(a:aQw ⟨s,ev,S,0⟩ p U)(h3:aQ7 ⟨s,ev,S,0⟩ p U):nB ⟨s,ev,S,0⟩ p (rdS ⟨s,ev,S,0⟩ 0 0):=by exact zqya8
theorem aRB(s:Sta)(ev:bh)(st:Int)(p:Pn)(n:Int)(c:Z ev<=1000000)(h1:aDN ⟨s,ev,S,st⟩ p S (rdS ⟨s,ev,S,st⟩ 0 0))(b:aQw ⟨s,ev,S,st⟩ p U)(h3:aQ7 ⟨s,ev,S,st⟩ p (X n)):nB ⟨s,ev,S,st⟩ p (rdS ⟨s,ev++[⟨4,p.g.id,n⟩],O,n⟩ 1 0):=by
 have a:=NE ⟨s,ev,O,n⟩ 4 p.g.id n (by show Z ev<=_;omega);unfold jX at a;dsimp only at a;generalize ev++[⟨4,p.g.id,n⟩]=ev2 at*
 refine eA (Er [] [39,40,59,60,61,62,63,64]) f162 3 λ_=>?_
 repeat' first|refine pA ?_|refine .eff [] [0,1,2] _ _ rfl h1 ?_|refine .p b ?_|refine .p h3 ?_|refine .sole rfl (.eff [] [0,1,2] _ _ rfl a ?_)|exact rfl|refine lA ?_ ?_|intro h
 refine⟨[],[0,1,2],⟨rfl,rfl⟩,rfl,rfl⟩
abbrev aTi(r:Rd)(ids:ax)(R:Rd):Prop:=ar 234 [G2 0 0,CA 1 (iv ids) J0] (evB r r.s.run 0) (Io (GT [])) [rdO R (ruV R.s.run 2 0) 1,evT 1,ruT 0]
theorem FT(s:Sta)(ev:bh)(st:Int)(p:Pn)(ids:ax)(R:Rd)(h1:aDN ⟨s,ev,S,st⟩ p S (rdS ⟨s,ev,S,st⟩ 0 0))(i:aQw ⟨s,ev,S,st⟩ p (X ids))(h3:aTi ⟨s,ev,S,st⟩ ids R)
  (d:Rd) (b:Bool) (a c:Nat) (j:aDN R p b (rdS d a c)) (e:a=0/\c=0\/a=1/\c=1):nB ⟨s,ev,S,st⟩ p [rdO d (ruV d.s.run 3 0) 1,evT 1,ruT 0,ruT 0]:=by
 rcases e with⟨rfl,rfl⟩|⟨rfl,rfl⟩
 all_goals
  refine eA (Er [] [39,40,59,60,61,62,63,64]) f162 3 λ_=>?_
  repeat' first|refine pA ?_|refine .eff [] [0,1,2] _ _ rfl h1 ?_|refine .p i ?_|refine .eff [] [0,1] _ _ rfl h3 ?_|refine .eff [] [0,1,4] _ _ rfl j ?_|exact rfl|refine lA ?_ ?_|intro h
  refine⟨[],[0,1,2,4],⟨rfl,rfl⟩,rfl,rfl⟩
def D7(r:Rd)(p:Pn):Prop:=
 (bH r p=r/\nB r p (rdS r 0 0))\/nB r p (rdS (bH r p) 1 1)\/nB r p (rdS (bH r p) 1 0)\/nB r p [rdO (bH r p) (ruV (bH r p).s.run 3 0) 1,evT 1,ruT 0,ruT 0]
abbrev D9:ab:=Do 35 [CA 11 [] .nil,CA 6 [] .nil,ii 0,ii 0,ii 0,ii 0,CA 11 [] .nil,CA 14 [] .nil,CA 1 [] .nil]
abbrev aSW(L:ba)(i:Nat):au:=[(2,G2 3 0),(4,G2 0 0),(12,CA 11 (pnv L) J0),(13,GE Is (Z (pnv L):Nat)),(14,ii i)]
abbrev aSV(r:Rd):aw:=[rdO r (ruV r.s.run 2 0) 0,evT 0,ruT 0,D9]
def aES(b:Rd->ba->Prop)(k:∀r p rest,b r (p::rest)->D7 r p/\b (bH r p) rest)(L:ba)(n:Z L<=1000000)(R:Rd):∀(m i:Nat) (r:Rd),i+m=Z L->(L.drop i).foldl bH r=R->b r (L.drop i)->
  BC E f103 (GT [R.s.av,CA 3 (evv R.ev) J0]) (aSW L i) (aSV r):=by
 have g:Z (pnv L)=Z L:=by simp
 intro m;induction m with
 |zero=>
  intro i r j a _;rw[Ae o_]at a;have a:r=R:=a;subst a;refine gV ?_;refine aF λh=>?_;refine bO hE 2 ?_;conv=>whnf
  refine To.permC hE [0,1,2,3,4,5,6,7,9] [8] (by rfl) ?_;conv=>whnf
  refine aLC ?_;refine aLC ?_;exact zW
 |succ m l=>
  intro i r j a d;have c:i<Z L:=o_;rw[Ac c]at a d;rw[Ao]at a;obtain⟨h1,f⟩:=k _ _ _ d;have get:=uY c;generalize L[i]=p at a d h1 f get;have next:=l (i+1) (bH r p) o_ a f
  rcases h1 with⟨e,hl⟩|hl|hl|hl
  .rw [e]at next
   exact tA
  .exact zqya21
  .exact zqya21
  .generalize bH r p=r2 at*
   refine gV ?_;refine aT λh=>?_
   repeat' first|refine pA ?_|refine⟨i,rfl,?_⟩|refine⟨_,get,?_⟩|refine .eff [] [0,1,2] _ _ rfl hl ?_|exact rfl|refine lA ?_ ?_|intro h
   exact To.part [2,4,12,13,14] [0,1,5,3] rfl rfl rfl next
def aMO(a:Rd->ba->Prop)(c:∀r p rest,a r (p::rest)->D7 r p/\a (bH r p) rest)(s:Sta)(h:StaSm' s)(L:ba)(d:Z L<=1000000)(hs:bj 161 [s.av] (CA 11 (pnv L) J0))(e:a ⟨s,[],S,0⟩ L):
  bj 103 [s.av] (GT [(L.foldl bH ⟨s,[],S,0⟩).s.av,CA 3 (evv (L.foldl bH ⟨s,[],S,0⟩).ev) J0]):=by
 have h1:=aES a c L d _ (Z L) 0 ⟨s,[],S,0⟩ o_ rfl e;have b:=aMR s h;rw[Bz]at h1;generalize L.foldl bH ⟨s,[],S,0⟩=R at*
 refine c_ f103 λ_=>?_
 repeat' first|refine pA ?_|refine .p b ?_|refine .p hs ?_|exact rfl|refine lA ?_ ?_|intro h
 refine To.begin 3 9 82 rfl rfl ?_;exact To.part [2,4,12,13,14] [3,4,2,1] rfl rfl rfl h1
def zV(run:a7):∀(ids:ax) (r:Rd),(ids.foldl (dL run) r).s.c=r.s.c/\(ids.foldl (dL run) r).s.now=r.s.now/\(ids.foldl (dL run) r).s.nxt=r.s.nxt/\(ids.foldl (dL run) r).s.hist=r.s.hist/\(ids.foldl (dL run) r).s.run=r.s.run/\(ids.foldl (dL run) r).head=r.head/\(ids.foldl (dL run) r).start=r.start/\Z (ids.foldl (dL run) r).s.pend=Z r.s.pend+Z ids/\Z (ids.foldl (dL run) r).ev=Z r.ev+Z ids
 |[],r=>⟨rfl,rfl,rfl,rfl,rfl,rfl,rfl,rfl,rfl⟩
 |id::ids,r=>by
  obtain⟨a,b,c,d,e,f,g,h,i⟩:=zV run ids (dL run r id);have h1:Z (dL run r id).s.pend=Z r.s.pend+1:=tK _ _;have j:Z (dL run r id).ev=Z r.ev+1:=by show Z (r.ev++[_])=_;simp
  rw[Ao];refine⟨a,b,c,d,e,f,g,?_,?_⟩
  .rw [h,h1,Al];omega
  .rw [i,j,Al];omega
structure LookPre(r:Rd)(p:Pn):Prop where
 c:r.s.c.sm
 run:Sm r.s.run
 pend:Z r.s.pend<=900000
 ev:Z r.ev<=900000
 pods:0<=p.g.pods/\p.g.pods<=16
 start:r.head=S->r.start=0
 cho:cE r.s.c r.s.run p.g=U->∀ids,eS r.s.c r.s.run p.g=X ids->ids≠[]/\Z ids<=100000/\∀id∈ids,0<=aL (bA id) r.s.run 0
def aGH(r:Rd)(p:Pn)(h:LookPre r p):D7 r p:=by
 have o:=h.pend;have f:=h.ev;rcases UN r p h.c h.run o_ o_ h.pods with⟨e,i⟩|⟨e,i⟩
 .have q:(admR r p).2=false:=by rw[e]
  obtain⟨s,ev,head,start⟩:=r;cases head with
  |true=>
   have a:bH ⟨s,ev,O,start⟩ p=⟨s,ev,O,start⟩:=by unfold bH;rw[bt (by rw[q];decide),bu rfl]
   exact .inl ⟨a,aRD s ev start p i⟩
  |false=>
   have a:bH ⟨s,ev,S,start⟩ p=aGI ⟨s,ev,S,start⟩ p (eS s.c s.run p.g):=by
    unfold bH
    grind
   have d:=aDB s.c h.c s.run h.run p.g h.pods;have b:=h.cho;dsimp only at b;cases m:eS s.c s.run p.g with
   |none=>
    rw[m]at d a;have hst:=aEs s.c h.c s.now s.run h.run p.g h.pods;have a:bH ⟨s,ev,S,start⟩ p=pO ⟨s,ev,S,start⟩ p (mQ s.c s.now s.run p.g):=a;cases hs:mQ s.c s.now s.run p.g with
    |none=>
     rw[hs]at hst a;have G:start=0:=h.start rfl;subst G;exact .inl ⟨a,aRC s ev p i d hst⟩
    |some n=>
     rw[hs]at hst a;have a:bH ⟨s,ev,S,start⟩ p=⟨s,ev++[⟨4,p.g.id,n⟩],O,n⟩:=a;refine .inr (.inr (.inl ?_))
     grind[aRB]
   |some ids=>
    rw[m]at d a;have l:cE s.c s.run p.g=none:=by
     have t:(AH ⟨s,ev,S,start⟩ p (cE s.c s.run p.g)).2=false:=q;cases w:cE s.c s.run p.g with
     |none=>rfl
     |some x=>rw[w]at t;have y:O=false:=t;cases y
    obtain⟨C,K,F⟩:=b l ids m;have a:bH ⟨s,ev,S,start⟩ p=(admR (gE ⟨s,ev,S,start⟩ ids) p).1:=a;have I:=aHF ⟨s,ev,S,start⟩ s.run rfl h.run ids o_ C F (by dsimp only at o⊢;omega) (by dsimp only at f⊢;omega);obtain⟨A,_,_,_,J,_,_,H,v⟩:=zV s.run ids ⟨s,ev,S,start⟩;have k:(gE ⟨s,ev,S,start⟩ ids).s.c=s.c:=A;have j:(gE ⟨s,ev,S,start⟩ ids).s.run=aB s.run ids:=rfl;have u:Z (gE ⟨s,ev,S,start⟩ ids).s.pend=Z s.pend+Z ids:=H;have D:Z (gE ⟨s,ev,S,start⟩ ids).ev=Z ev+Z ids:=v;refine .inr (.inr (.inr ?_));rw[a];generalize gE ⟨s,ev,S,start⟩ ids=R at*
    dsimp only at o f;rcases UN R p (by rw[k];exact h.c) (by rw[j];exact iQ h.run ids) o_ o_ h.pods with⟨z,B⟩|⟨z,B⟩
    .grind [FT]
    grind[FT]
 .have a:bH r p=(admR r p).1:=by unfold bH;rw[bu e]
  refine .inr (.inl ?_);rw[a];exact aGJ r (admR r p).1 p i
abbrev r3O(r:Rd)(ge:Nat):ab:=Do 150 (rdC r (CA 14 (rav r.s.run) J0) ge)
abbrev r3S(r:Rd)(ge:Nat):aw:=[r3O r ge,evT ge]
def JB(l:ba)(a:Int)(hl:Z l<=1000000):bj 43 [CA 11 (pnv l) J0,ii a] (GT [CA 11 (pnv (dI l a)) J0,DA (!decide (fN a l<0))]):=by have h:=Q2.takeref_ok (l.map Pn.q) a (by simpa using hl);rw[<-ZK,pS,pS]at h;exact h
def P3(l:ba)(p:Pn)(hl:Z l<=1000000):bj 77 [CA 11 (pnv l) J0,p.av] (CA 11 (pnv (iZ l p)) J0):=by have h:=Q2.putref_ok (l.map Pn.q) p.q (by simpa using hl);rw[<-V7,pS,pS]at h;exact h
def aPW{n a:Nat}(h:n<=1048576)(b:a<=1000):A8 n a:=Aa (by simp only[maxLen];omega) (Cl (Eb h b) d_)
def JD(r:Rd)(p:Pn)(fl:Int)(hs:ax)(hp:Z r.s.pend<=1000000)(i:Z r.ev<=1000000)(c:Z r.s.run<=1000000):
  ar 129 [G2 0 0,p.av,ii fl,CA 1 (iv hs) J0] (r3S r 0) (Io (GT [])) (r3S (xQ r p fl hs) 1):=by
 obtain⟨s,ev,head,start⟩:=r;have j:=JB s.pend p.g.id hp;have b:Z (evv ev)<=1048576:=by simp;dsimp only at i;omega
 have a:Z (rav s.run)<=1048576:=by simp;dsimp only at c;omega
 have e:rav (s.run++[⟨p.g,p.seq,p.at',s.now,fl,hs⟩])=rav s.run++[Rn.av ⟨p.g,p.seq,p.at',s.now,fl,hs⟩]:=by simp
 have d:evv (ev++[⟨1,p.g.id,fl⟩])=evv ev++[Ev.av ⟨1,p.g.id,fl⟩]:=by simp
 unfold xQ r3S r3O rdC;dsimp only;rw[e,d];generalize dI s.pend p.g.id=pq at*
 clear e d i c hp;refine eA (Er [] [21,39,49,50,51,52,64,65]) f129 2 λ_=>?_
 repeat' first|refine pA ?_|refine .p j ?_|refine Aa (aPW a d_) ?_|refine Aa (qH a d_) ?_|refine Aa (qH b d_) ?_|exact rfl|refine lA ?_ ?_|intro h
 refine⟨[],[0,1],⟨rfl,rfl⟩,rfl,rfl⟩
def QS(q:Rd)(x:Pn):Rd:=⟨{q.s with pend:=iZ q.s.pend x},q.ev,q.head,q.start⟩
def C2(id:Int)(q:Rd)(x:Rn):Rd:=if bA id x=O then QS q x.pn else q
abbrev aOV(ids:ax)(i:Nat):au:=[(0,G2 0 0),(1,CA 1 (iv ids) J0),(4,ii i)]
abbrev aOU(R:Rd):Goal:=.full 2 (Io (GT [])) (r3S R 1)
def aRq(ids:ax)(y:Z ids<=1048576)(R:Rd)(run:a7)(hs:Sm run)(i:Nat)(id:Int)(get:(iv ids)[i]? =X (ii id))(Q:Rd)(o:Z Q.ev<=1000000)
  (next:To (Er [] [56,68,69]) f131 (aOU R) (BB f131 (aOV ids (i+1)) (r3S (jX Q ⟨2,id,0⟩) 1))) (g:Nat) (h:g=0\/g=1):∀(m k:Nat) (q:Rd),k+m=Z run->q.s.run=run->(run.drop k).foldl (C2 id) q=Q->Z q.s.pend+m<=1000000->
  To (Er [] [56,68,69]) f131 (aOU R) (G0 (stk f131 1) (aOV ids i++[(5,ii k)]) (r3S q g)):=by
 have z:i<Z ids:=by have:=(List.getElem?_eq_some_iff.1 get).1;simpa using this
 have r:Z (iv ids)=Z ids:=by simp
 intro m;induction m with
 |zero=>
  intro k q p b a _;rw[Ae o_]at a;have a:q=Q:=a;subst a;have l:Z (rav q.s.run)=k:=by rw[b];simp;omega
  have w:Z (evv q.ev)<=1048576:=by simp;omega
  have n:evv (q.ev++[⟨2,id,0⟩])=evv q.ev++[Ev.av ⟨2,id,0⟩]:=by simp
  unfold r3S r3O rdC jX at next
  dsimp only at next
  rw[n]at next
  have v:=hs.1;clear n b;rcases h with rfl|rfl
  all_goals
   exact tA
 |succ m e=>
  intro k q p b a hp;have c:k<Z run:=o_;rw[Ac c,Ao]at a;have u:(rav q.s.run)[k]? =X run[k].av:=by rw[b];exact cB c
  have l:Z (rav q.s.run)=Z run:=by rw[b];simp
  have v:=hs.1;generalize run[k]=x at a u;unfold C2 at a;cases d:bA id x with
  |true=>
   rw[bu d]at a;have t:=P3 q.s.pend x.pn o_;have f:=e (k+1) (QS q x.pn) o_ b a (by show Z (iZ _ _)+m<=_;rw[tK];omega);have j:x.pn=⟨x.g,x.seq,x.at'⟩:=rfl;unfold r3S r3O rdC QS at f;dsimp only at f;generalize iZ q.s.pend x.pn=pq at*
   rw[j]at t;unfold bA at d;clear e next a
   rcases h with rfl|rfl
   all_goals
    exact tA
  |false=>
   rw[bt (by rw[d];decide)]at a;have f:=e (k+1) q o_ b a o_;unfold bA at d;clear e next a
   rcases h with rfl|rfl
   all_goals
    exact tA
def JN(id:Int):∀(l:a7) (q:Rd),(∀x∈l,bA id x=S)->l.foldl (C2 id) q=q
 |[],_,_=>rfl
 |x::l,q,h=>by
  have e:C2 id q x=q:=by unfold C2;rw[bt (by rw[h x (Aw ..)];decide)]
  rw[Ao,e];exact JN id l q λy a=>h y (Az _ a)
def FK(id:Int):∀(l:a7) (i:Nat) (q:Rd),(l.map λx=>x.g.id).Nodup->0<=aL (bA id) l i->l.foldl (C2 id) q=QS q (aH l (aL (bA id) l i-i).toNat).pn
 |[],i,q,_,h=>by have h:(0:Int)<= -1:=h;omega
 |x::l,i,q,hn,h=>by
  rw[Bg,Ce]at hn;rw[Ao];unfold aL at h⊢;by_cases a:bA id x=O
  .rw [bu a]at h⊢;have e:((i:Int)-i).toNat=0:=o_;rw[e];have b:C2 id q x=QS q x.pn:=by unfold C2;rw[bu a]
   rw[b];refine JN id l _ λy d=>?_;unfold bA at a⊢;have a:x.g.id=id:=by simpa using a
   have:y.g.id≠x.g.id:=λf=>hn.1 (f▸Cn d);simp;omega
  .rw [bt a]at h⊢;have b:C2 id q x=q:=by unfold C2;rw[bt a]
   rw[b,FK id l (i+1) q hn.2 h];rcases nI (bA id) l (i+1)with c|c
   .omega
   .have e:(aL (bA id) l (i+1)-i).toNat=(aL (bA id) l (i+1)-((i+1:Nat):Int)).toNat+1:=o_;rw[e];rfl
def aP1(run:a7)(a:(run.map λx=>x.g.id).Nodup)(q:Rd)(id:Int)(h:0<=aL (bA id) run 0):jX (run.foldl (C2 id) q) ⟨2,id,0⟩=dL run q id:=by rw[FK id run 0 q a h];have e:(aL (bA id) run 0-((0:Nat):Int)).toNat=(aL (bA id) run 0).toNat:=o_;rw[e];rfl
def aO0(run:a7)(hs:Sm run)(j:(run.map λx=>x.g.id).Nodup)(ids:ax)(h:Z ids<=1048576)(f:∀id∈ids,0<=aL (bA id) run 0)(R Q:Rd)(e:R=⟨{Q.s with run:=aB run ids},Q.ev,Q.head,Q.start⟩):∀(m i:Nat) (q:Rd) (g:Nat),i+m=Z ids->(g=1\/g=0/\0<m)->q.s.run=run->(ids.drop i).foldl (dL run) q=Q->Z q.s.pend+m+Z run<=1000000->Z q.ev+m<=1000000->
  To (Er [] [56,68,69]) f131 (aOU R) (BB f131 (aOV ids i) (r3S q g)):=by
 have r:Z (iv ids)=Z ids:=by simp
 intro m;induction m with
 |zero=>
  intro i q g p k d a hp t;rw[Ae o_]at a;have a:q=Q:=a;subst a;have v:=oE q.s.run (by rw[d];exact hs) ids h;rw[<-d]at e;generalize aB q.s.run ids=rn at*
  subst e;obtain rfl:g=1:=o_;exact tA
 |succ m l=>
  intro i q g p k d a hp t;have c:i<Z ids:=o_;rw[Ac c,Ao]at a;have b:=f _ (Av c);have get:(iv ids)[i]? =X (ii ids[i]):=by simp[c]
  generalize ids[i]=id at a b get;have n:=aP1 run j q id b;have w:Z (dL run q id).s.pend=Z q.s.pend+1:=tK _ _;have y:Z (dL run q id).ev=Z q.ev+1:=by show Z (q.ev++[_])=_;simp
  have next:=l (i+1) (dL run q id) 1 o_ (.inl rfl) d a o_ o_
  rw[<-n]at next
  have u:Z (run.foldl (C2 id) q).ev=Z q.ev:=by rw[FK id run 0 q j b];rfl
  have o:=aRq ids h R run hs i id get _ o_ next g o_ (Z run) 0 q o_ d rfl o_
  clear next l n a
  rcases k with rfl|⟨rfl,_⟩
  all_goals
   exact tA
def aCo(r:Rd)(ids:ax)(hs:Sm r.s.run)(c:(r.s.run.map λx=>x.g.id).Nodup)(d:Z ids<=1048576)(b:ids≠[])(a:∀id∈ids,0<=aL (bA id) r.s.run 0)(hp:Z r.s.pend+Z ids+Z r.s.run<=1000000)(e:Z r.ev+Z ids<=1000000):
  ar 131 [G2 0 0,CA 1 (iv ids) J0] (r3S r 0) (Io (GT [])) (r3S (gE r ids) 1):=by
 have h:=aO0 r.s.run hs c ids d a (gE r ids) _ rfl (Z ids) 0 r 0 o_ (.inr ⟨rfl,Dp.2 b⟩) rfl rfl hp e;generalize gE r ids=R at*
 refine eA (Er [] [56,68,69]) f131 2 λ_=>?_;exact zW
abbrev H4(r:Rd)(p:Pn)(As:aw):Prop:=ar 83 [G2 0 0,p.av] (r3S r 0) (Io (GT [])) As
abbrev B3(c:Con)(run:a7)(p:Pn)(Q:Option (Int×ax)):Prop:=bj 119 [c.av,CA 14 (rav run) J0,p.g.av] (fdA Q)
abbrev aNu(s:Sta)(st:Int)(p:Pn)(b:Bool):Prop:=bj 128 [ii s.now,p.g.av,ii st] (DA b)
abbrev aFH(s:Sta)(p:Pn)(Q:Option ax):Prop:=bj 130 [s.c.av,CA 14 (rav s.run) J0,p.g.av] (chR Q)
abbrev aNt(s:Sta)(p:Pn)(Q:Option Int):Prop:=bj 132 [s.c.av,ii s.now,CA 14 (rav s.run) J0,p.g.av] (stA Q)
abbrev aFM(r:Rd)(p:Pn)(fl:Int)(hs:ax)(R:Rd):Prop:=ar 129 [G2 0 0,p.av,ii fl,CA 1 (iv hs) J0] (r3S r 0) (Io (GT [])) (r3S R 1)
abbrev aSX(r:Rd)(ids:ax)(R:Rd):Prop:=ar 131 [G2 0 0,CA 1 (iv ids) J0] (r3S r 0) (Io (GT [])) (r3S R 1)
def aS9(s:Sta)(ev:bh)(st:Int)(p:Pn)(fl:Int)(hs:ax)(R:Rd)(h1:B3 s.c s.run p (X (fl,hs)))(a:aFM ⟨s,ev,S,st⟩ p fl hs R):H4 ⟨s,ev,S,st⟩ p (r3S R 1):=by exact zqya0
def aS8(s:Sta)(ev:bh)(st:Int)(p:Pn)(fl:Int)(hs:ax)(R:Rd)(h1:B3 s.c s.run p (X (fl,hs)))(hm:aNu s st p O)(a:aFM ⟨s,ev,O,st⟩ p fl hs R):H4 ⟨s,ev,O,st⟩ p (r3S R 1):=by exact zqya0
def aS6(s:Sta)(ev:bh)(st:Int)(p:Pn)(x:Int×ax)(h1:B3 s.c s.run p (X x))(hm:aNu s st p S):H4 ⟨s,ev,O,st⟩ p (r3S ⟨s,ev,O,st⟩ 0):=by exact zqya0
def aS7(s:Sta)(ev:bh)(st:Int)(p:Pn)(h1:B3 s.c s.run p U):H4 ⟨s,ev,O,st⟩ p (r3S ⟨s,ev,O,st⟩ 0):=by exact zqya0
def aS5(s:Sta)(ev:bh)(st:Int)(p:Pn)(h1:B3 s.c s.run p U)(a:aFH s p U)(h3:aNt s p U):H4 ⟨s,ev,S,st⟩ p (r3S ⟨s,ev,S,st⟩ 0):=by exact zqya0
def aS4(s:Sta)(ev:bh)(st:Int)(p:Pn)(n:Int)(e:Z ev<=1000000)(h1:B3 s.c s.run p U)(d:aFH s p U)(h3:aNt s p (X n)):H4 ⟨s,ev,S,st⟩ p (r3S ⟨s,ev++[⟨4,p.g.id,n⟩],O,n⟩ 1):=by
 have a:Z (evv ev)<=1048576:=by simp;omega
 have b:evv (ev++[⟨4,p.g.id,n⟩])=evv ev++[Ev.av ⟨4,p.g.id,n⟩]:=by simp
 unfold H4 r3S r3O rdC;dsimp only;rw[b];exact zqya0
def aS3(s:Sta)(ev:bh)(st:Int)(p:Pn)(ids:ax)(R a:Rd)(fl:Int)(hs:ax)(h1:B3 s.c s.run p U)(b:aFH s p (X ids))(h3:aSX ⟨s,ev,S,st⟩ ids R)(e:B3 s.c R.s.run p (X (fl,hs)))(d:aFM R p fl hs a):H4 ⟨s,ev,S,st⟩ p (r3S a 1):=by exact zqya0
def AU(l:ba)(p:Pn):(iZ l p).Perm (p::l):=by
 unfold iZ
 grind[Bl,Ag,Fu]
def GA(a:Int):∀(l:ba) (i:Nat),((∀p∈l,p.g.id≠a)/\Q2.idx (λx=>x.id==a) (l.map Pn.q) i= -1)\/∃A p B,l=A++p::B/\p.g.id=a/\Q2.idx (λx=>x.id==a) (l.map Pn.q) i=((i+Z A:Nat):Int)
 |[],i=>.inl ⟨λp hp=>(by cases hp),rfl⟩
 |p::l,i=>by
  rw[Bg];unfold Q2.idx;by_cases h:p.g.id=a
  .right;refine⟨[],p,l,rfl,h,?_⟩;have e:(p.q.id==a)=true:=by show(p.g.id==a)=O;rw[h];simp
   simp[e]
  .have e:(p.q.id==a)=false:=by show(p.g.id==a)=S;simpa using h
   simp only[e];rcases GA a l (i+1)with⟨h1,b⟩|⟨A,x,B,h1,b,h3⟩
   .grind
   grind[Al]
theorem DY(a:Int)(l:ba):((∀p∈l,p.g.id≠a)/\fN a l= -1)\/∃A p B,l=A++p::B/\p.g.id=a/\fN a l=(Z A:Int):=by have h:=GA a l 0;simp only[Nat.zero_add]at h;exact h
def EP{l:ba}{p:Pn}(hp:p∈l)(b:(l.map λx=>x.g.id).Nodup):(p::dI l p.g.id).Perm l/\∀q∈l,q≠p->q∈dI l p.g.id:=by
 rcases DY p.g.id l with⟨h,_⟩|⟨A,x,B,h1,c,h3⟩
 .exact bv rfl (h p hp)
 .have a:x=p:=by grind[Ce,Aw]
  subst a;have e:dI l x.g.id=A++B:=by
   unfold dI;rw[bt o_,h3,h1];show(A++x::B).eraseIdx (Z A)=_
   grind
  grind[Dh]
def GM{id:Int}(l:a7):∀(i:Nat) (x:Rn),x∈l->x.g.id=id->0<=aL (bA id) l i:=by
 induction l with
 |nil=>intro i x a;cases a
 |cons y l c=>
  intro i x a h;unfold aL;by_cases b:bA id y=O
  .rw [bu b];omega
  .rw [bt b];rcases Ba.1 a with e|a
   .exact bv (by unfold bA;rw[<-e];simpa using h) b
   .exact c (i+1) x a h
def aC7{id:Int}(l:a7):∀(i:Nat),0<=aL (bA id) l i->aH l (aL (bA id) l i-i).toNat∈l/\(aH l (aL (bA id) l i-i).toNat).g.id=id:=by
 induction l with
 |nil=>intro i h;have h:(0:Int)<= -1:=h;omega
 |cons y l b=>
  intro i h;unfold aL at h⊢;by_cases a:bA id y=O
  .rw [bu a];have e:((i:Int)-i).toNat=0:=o_;rw[e];unfold bA at a;exact⟨Aw ..,(by simpa using a:y.g.id=id)⟩
  .rw [bt a]at h⊢;obtain⟨h1,c⟩:=b (i+1) h;rcases nI (bA id) l (i+1)with h3|h3
   .omega
   .have e:(aL (bA id) l (i+1)-i).toNat=(aL (bA id) l (i+1)-((i+1:Nat):Int)).toNat+1:=o_;rw[e];exact⟨Az _ h1,c⟩
def xOf(run:a7)(id:Int):Rn:=aH run (aL (bA id) run 0).toNat
theorem ED{run:a7}{id:Int}(h:0<=aL (bA id) run 0):xOf run id∈run/\(xOf run id).g.id=id:=by have a:=aC7 run 0 h;have e:(aL (bA id) run 0-((0:Nat):Int)).toNat=(aL (bA id) run 0).toNat:=o_;rw[e]at a;exact a
def KN(run:a7):∀(ids:ax) (r:Rd),(ids.foldl (dL run) r).s.pend.Perm (ids.map (λid=>(xOf run id).pn)++r.s.pend)
 |[],r=>Fc _
 |id::ids,r=>by rw[Ao,Bg];refine(KN run ids (dL run r id)).trans ?_;have h:(dL run r id).s.pend=iZ r.s.pend (xOf run id).pn:=rfl;rw[h];refine(Dm _ (AU _ _)).trans ?_;exact Fu
def RE{l:a7}(h:sE l):(l.map λx=>x.g.id).Nodup:=by unfold Mm;rw[Gj];exact Jn (λh=>h.1) h
def Q6{run:a7}(b:sE run){ids:ax}(d:ids.Nodup)(c:∀id∈ids,0<=aL (bA id) run 0):(ids.map (xOf run)++aB run ids).Perm run:=by
 have a:run.Nodup:=Jn (λh e=>h.1 (by rw[e])) b;have h1:(ids.map (xOf run)).Nodup:=by grind[List.Pairwise.imp_of_mem,ED]
 have f:(aB run ids).Nodup:=a.sublist List.filter_sublist
 grind[List.perm_ext_iff_of_nodup,Du,oC,ED,Dh,aKN,Cx]
structure Base(s:Sta):Prop where
 c:s.c.sm
 ids:((s.pend++s.run.map Rn.pn).map λx=>x.g.id).Nodup
 seqs:((s.pend++s.run.map Rn.pn).map λx=>x.seq).Nodup
 few:Z (s.pend++s.run.map Rn.pn)<=39
 gang:∀x∈s.pend++s.run.map Rn.pn,(0<=x.g.pods/\x.g.pods<=16)/\aO x.g.need=O/\x.g.id≠0
structure aj(s:Sta)(r:Rd)(rest:ba):Prop where
 c:r.s.c=s.c
 now:r.s.now=s.now
 nxt:r.s.nxt=s.nxt
 hist:r.s.hist=s.hist
 perm:(r.s.pend++r.s.run.map Rn.pn).Perm (s.pend++s.run.map Rn.pn)
 sub:∀p∈rest,p∈r.s.pend
 rn:rest.Nodup
 start:r.head=S->r.start=0
 hs:∀x∈r.s.run,Z x.hs<=1048576
def aj.few{s:Sta}{r:Rd}{rest:ba}(b:Base s)(h:aj s r rest):Z r.s.pend+Z r.s.run<=39:=by have:=h.perm.length_eq;have a:=b.few;simp at this a;omega
def aj.sm{s:Sta}{r:Rd}{rest:ba}(b:Base s)(h:aj s r rest):Sm r.s.run:=⟨by have:=h.few b;omega,h.hs⟩
def aj.once{s:Sta}{r:Rd}{rest:ba}(b:Base s)(h:aj s r rest):sE r.s.run:=by have h1:=((h.perm.map λx=>x.g.id).nodup_iff).2 b.ids;have a:=((h.perm.map λx=>x.seq).nodup_iff).2 b.seqs;rw[Bh,Du,Dx]at h1 a;have h1:=h1.2.1;have a:=a.2.1;unfold Mm at h1 a;rw[Gj]at h1 a;exact h1.and a
def aj.pids{s:Sta}{r:Rd}{rest:ba}(b:Base s)(h:aj s r rest):(r.s.pend.map λx=>x.g.id).Nodup:=by have h1:=((h.perm.map λx=>x.g.id).nodup_iff).2 b.ids;rw[Bh,Du]at h1;exact h1.1
def aj.gangP{s:Sta}{r:Rd}{rest:ba}(b:Base s)(h:aj s r rest){p:Pn}(hp:p∈r.s.pend):(0<=p.g.pods/\p.g.pods<=16)/\aO p.g.need=O/\p.g.id≠0:=
 b.gang p (h.perm.mem_iff.1 (Dh _ hp))
def aj.gangR{s:Sta}{r:Rd}{rest:ba}(b:Base s)(h:aj s r rest){x:Rn}(a:x∈r.s.run):(0<=x.g.pods/\x.g.pods<=16)/\aO x.g.need=O/\x.g.id≠0:=
 b.gang x.pn (h.perm.mem_iff.1 (Cx _ (Cn a)))
def aj.skip{s:Sta}{r:Rd}{p:Pn}{rest:ba}(h:aj s r (p::rest)):aj s r rest:=
 {h with sub:=λq a=>h.sub q (Az _ a),rn:=(Ce.1 h.rn).2}
def aj.adm{s:Sta}{r:Rd}{p:Pn}{rest:ba}(b:Base s)(h:aj s r (p::rest)){fl:Int}{hs:ax}(hl:Z hs<=1048576):aj s (xQ r p fl hs) rest where
 c:=h.c
 now:=h.now
 nxt:=h.nxt
 hist:=h.hist
 perm:=by
  have hp:=(EP (h.sub p (Aw ..)) (h.pids b)).1;show(dI r.s.pend p.g.id++(r.s.run++[_]).map Rn.pn).Perm _;refine Mo ?_ h.perm;rw[Bh,<-Ag];refine(Dv (l₂:=[p])).trans ?_
  grind[Ag,Dt]
 sub q hq:=(EP (h.sub p (Aw ..)) (h.pids b)).2 q (h.sub q (Az _ hq)) λe=>(Ce.1 h.rn).1 (e▸hq)
 rn:=(Ce.1 h.rn).2
 start:=h.start
 hs x hx:=by
  rcases Bx.1 hx with hx|hx
  .exact h.hs x hx
  .rw [Dl.1 hx];exact hl
def aj.evic{s:Sta}{r:Rd}{rest:ba}(b:Base s)(h:aj s r rest){ids:ax}(k:ids.Nodup)(a:∀id∈ids,0<=aL (bA id) r.s.run 0):aj s (gE r ids) rest:=by
 obtain⟨l,n,g,i,_,m,o,_,_⟩:=zV r.s.run ids r;have hp:=KN r.s.run ids r;refine⟨l.trans h.c,n.trans h.now,g.trans h.nxt,i.trans h.hist,?_,λp d=>hp.mem_iff.2 (Cx _ (h.sub p d)),h.rn,λe=>?_,λx j=>h.hs x (Fh.1 j).1⟩
 .show ((ids.foldl (dL r.s.run) r).s.pend++(aB r.s.run ids).map Rn.pn).Perm _;refine Mo ?_ h.perm;refine(Dt _ hp).trans ?_;have f:=(Q6 (h.once b) k a).map Rn.pn;rw[Bh,Dx]at f;refine(Dt _ Dv).trans ?_;rw[Ag];exact Dm _ f
 .show (ids.foldl (dL r.s.run) r).start=0;rw[o];refine h.start ?_;rw[<-m];exact e
def vW{s:Sta}{r:Rd}{rest:ba}(b:Base s)(h:aj s r rest){g:Gan}(i:cE r.s.c r.s.run g=U){ids:ax}(d:eS r.s.c r.s.run g=X ids):
  ids≠[]/\ids.Nodup/\Z ids<=39/\(∀id∈ids,0<=aL (bA id) r.s.run 0)/\∃x,cE r.s.c (aB r.s.run ids) g=X x:=by
 obtain⟨_,h1,j,h3⟩:=CJ d;have hl:=aMX (h.once b) d;have a:=h.few b;refine⟨λe=>?_,h1,by omega,λid hid=>?_,Option.isSome_iff_exists.1 h3⟩
 .subst e;unfold nX at h3;rw[eJ,i]at h3;cases h3
 .obtain ⟨_,x,f,e,_⟩:=j id hid;exact GM _ 0 x f e
def aLg{s:Sta}{r:Rd}{p:Pn}{rest:ba}(b:Base s)(h:aj s r (p::rest))(he:Z r.ev<=900000):LookPre r p where
 c:=by rw[h.c];exact b.c
 run:=h.sm b
 pend:=by have:=h.few b;omega
 ev:=he
 pods:=(h.gangP b (h.sub p (Aw ..))).1
 start:=h.start
 cho hf ids hq:=by obtain⟨a1,_,a3,a4,_⟩:=vW b h hf hq;exact⟨a1,by omega,a4⟩
def aCO{s:Sta}{r:Rd}{p:Pn}{rest:ba}(b:Base s)(h:aj s r (p::rest)):aj s (bH r p) rest/\Z (bH r p).ev<=Z r.ev+40:=by
 have o:=(h.gangP b (h.sub p (Aw ..))).1;have a:=h.skip;have k:∀{q:Rd},aj s q (p::rest)->aj s (admR q p).1 rest/\Z (admR q p).1.ev<=Z q.ev+1:=λ{q} d=>by
  unfold admR;cases i:cE q.s.c q.s.run p.g with
  |none=>exact⟨d.skip,Jg _⟩
  |some x=>
   have m:=GK o i;obtain⟨fl,hs⟩:=x;unfold AH;dsimp only;split
   .exact ⟨d.skip,Jg _⟩
   .exact ⟨d.adm b m,by show Z (q.ev++[_])<=_;simp⟩
 unfold bH;split
 .exact ⟨(k h).1,by have:=(k h).2;omega⟩
 .rename_i v;split
  .exact ⟨a,by omega⟩
  .rename_i t;have j:r.head=false:=by cases d:r.head with|false=>rfl|true=>exact bv d t
   have f:cE r.s.c r.s.run p.g=none:=by
    cases i:cE r.s.c r.s.run p.g with
    |none=>rfl
    |some x=>
     obtain⟨fl,hs⟩:=x;refine bv ?_ v;unfold admR;rw[i];unfold AH;dsimp only;rw[j];rfl
   cases d:eS r.s.c r.s.run p.g with
   |none=>
    show aj s (pO r p _) rest/\Z (pO r p _).ev<=_;cases mQ r.s.c r.s.now r.s.run p.g with
    |none=>exact⟨a,by show Z r.ev<=_;omega⟩
    |some n=>exact⟨⟨a.c,a.now,a.nxt,a.hist,a.perm,a.sub,a.rn,λe=>(by cases e),a.hs⟩,by show Z (r.ev++[_])<=_;simp⟩
   |some ids=>
    obtain⟨_,w,A,l,_⟩:=vW b h f d;obtain⟨u,y⟩:=k (h.evic b w l);refine⟨u,?_⟩;have z:Z (gE r ids).ev=Z r.ev+Z ids:=(zV r.s.run ids r).2.2.2.2.2.2.2.2;show Z (admR (gE r ids) p).1.ev<=_;omega
def YV(r:Rd)(p:Pn):Prop:=(bH r p=r/\H4 r p (r3S r 0))\/H4 r p (r3S (bH r p) 1)
def aKM{s:Sta}{r:Rd}{p:Pn}{rest:ba}(b:Base s)(h:aj s r (p::rest))(he:Z r.ev<=900000):YV r p/\aj s (bH r p) rest/\Z (bH r p).ev<=Z r.ev+40:=by
 obtain⟨B,J,g3⟩:=h.gangP b (h.sub p (Aw ..));have F:=h.few b;have L:r.s.c.sm:=by rw[h.c];exact b.c
 have o:=mV r.s.c L r.s.run (h.sm b) p.g B J;have hm:=aKc r.s.now p.g r.start;cases v:cE r.s.c r.s.run p.g with
 |some x=>
  rw[v]at o;have y:=GK B v;have m:=JD r p x.1 x.2 o_ o_ o_;have k:=h.adm b (fl:=x.1) y;have u:Z (xQ r p x.1 x.2).ev=Z r.ev+1:=by show Z (r.ev++[_])=_;simp
  obtain⟨d,ev,head,start⟩:=r;dsimp only at v hm o;have C:admR ⟨d,ev,head,start⟩ p=AH ⟨d,ev,head,start⟩ p (X x):=by unfold admR;rw[v]
  cases head with
  |false=>
   have i:bH ⟨d,ev,S,start⟩ p=xQ ⟨d,ev,S,start⟩ p x.1 x.2:=by unfold bH;rw[C];rfl
   rw[i];refine⟨.inr ?_,k,by rw[u];exact Nat.add_le_add_left d_ _⟩;rw[i];exact aS9 d ev start p x.1 x.2 _ o m
  |true=>
   cases K:bmB d.now p.g start with
   |true=>
    have i:bH ⟨d,ev,O,start⟩ p=xQ ⟨d,ev,O,start⟩ p x.1 x.2:=by exact zqya19
    rw[K]at hm;rw[i];refine⟨.inr ?_,k,by rw[u];exact Nat.add_le_add_left d_ _⟩;rw[i];exact aS8 d ev start p x.1 x.2 _ o hm m
   |false=>
    have i:bH ⟨d,ev,O,start⟩ p=⟨d,ev,O,start⟩:=by exact zqya19
    rw[K]at hm;rw[i];exact⟨.inl ⟨i,aS6 d ev start p x o hm⟩,h.skip,Ik _ _⟩
 |none=>
  rw[v]at o;have P:=λids=>vW b h (g:=p.g) v (ids:=ids);have l:=λR=>QE r.s.c L r.s.run (h.sm b) o_ (h.once b) (λx A=>(h.gangR b A).2.2) p.g B J R;have j:=QK r.s.c L r.s.now r.s.run (h.sm b) p.g B J;have D:=λids=>aCo r ids (h.sm b) (RE (h.once b));have H:=λids (a:ids.Nodup)=>h.evic b (ids:=ids) a;have f:=h.skip;have G:Z r.s.pend+Z r.s.run<=39:=F;obtain⟨d,ev,head,start⟩:=r;dsimp only at v hm o G he;have C:admR ⟨d,ev,head,start⟩ p=(⟨d,ev,head,start⟩,S):=by unfold admR;rw[v];rfl
  cases head with
  |true=>
   have i:bH ⟨d,ev,O,start⟩ p=⟨d,ev,O,start⟩:=by unfold bH;rw[C];rfl
   rw[i];exact⟨.inl ⟨i,aS7 d ev start p o⟩,f,Ik _ _⟩
  |false=>
   have i:bH ⟨d,ev,S,start⟩ p=aGI ⟨d,ev,S,start⟩ p (eS d.c d.run p.g):=by unfold bH;rw[C];rfl
   cases I:eS d.c d.run p.g with
   |none=>
    have q:=l U I;rw[I]at i;have i:bH ⟨d,ev,S,start⟩ p=pO ⟨d,ev,S,start⟩ p (mQ d.c d.now d.run p.g):=i;dsimp only at j;cases hs:mQ d.c d.now d.run p.g with
    |none=>
     rw[hs]at j i;have i:bH ⟨d,ev,S,start⟩ p=⟨d,ev,S,start⟩:=i;rw[i];exact⟨.inl ⟨i,aS5 d ev start p o q j⟩,f,Ik _ _⟩
    |some n=>
     rw[hs]at j i;have i:bH ⟨d,ev,S,start⟩ p=⟨d,ev++[⟨4,p.g.id,n⟩],O,n⟩:=i;rw[i];refine⟨.inr ?_,⟨f.c,f.now,f.nxt,f.hist,f.perm,f.sub,f.rn,λe=>(by cases e),f.hs⟩,by simp⟩;rw[i];exact aS4 d ev start p n o_ o q j
   |some ids=>
    have q:=l (X ids) I;rw[I]at i;obtain⟨T,a2,a3,Q,x,A⟩:=P ids I;have V:=D ids o_ T Q (by dsimp only;omega) (by dsimp only;omega);have k:=H ids a2 Q;have z:=mV d.c L (aB d.run ids) (iQ (h.sm b) ids) p.g B J;dsimp only at A;rw[A]at z;have y:=GK B A;obtain⟨W,_,_,_,f5,An,_,f8,Be⟩:=zV d.run ids ⟨d,ev,S,start⟩;have N:(gE ⟨d,ev,S,start⟩ ids).s.c=d.c:=W;have w:(gE ⟨d,ev,S,start⟩ ids).s.run=aB d.run ids:=rfl;have At:Z (gE ⟨d,ev,S,start⟩ ids).s.pend=Z d.pend+Z ids:=f8;have As:Z (gE ⟨d,ev,S,start⟩ ids).ev=Z ev+Z ids:=Be;have M:(gE ⟨d,ev,S,start⟩ ids).head=false:=An;have Am:Z (aB d.run ids)<=Z d.run:=List.length_filter_le _ _;have i:bH ⟨d,ev,S,start⟩ p=(admR (gE ⟨d,ev,S,start⟩ ids) p).1:=i;generalize gE ⟨d,ev,S,start⟩ ids=R at*
    have Y:(admR R p).1=xQ R p x.1 x.2:=by unfold admR;rw[N,w,A];unfold AH;dsimp only;rw[M];rfl
    rw[Y]at i;have m:=JD R p x.1 x.2 o_ o_ (by rw[w];omega);have t:=k.adm b (fl:=x.1) y;have u:Z (xQ R p x.1 x.2).ev=Z R.ev+1:=by show Z (R.ev++[_])=_;simp
    rw[i];refine⟨.inr ?_,t,by rw[u,As];show Z ev+Z ids+1<=Z ev+40;omega⟩;rw[i];rw[<-w]at z;exact aS3 d ev start p ids R _ x.1 x.2 o q V z m
def C9(s:Sta)(r:Rd)(rest:ba):Prop:=aj s r rest/\Z r.ev+100*Z rest<=900000
def AP{s:Sta}(b:Base s)(r:Rd)(p:Pn)(rest:ba)(h:C9 s r (p::rest)):C9 s (bH r p) rest:=by have c:=h.2;rw[Al]at c;obtain⟨a,h3⟩:=aCO b h.1;exact⟨a,by omega⟩
def aCl{s:Sta}(b:Base s)(r:Rd)(p:Pn)(rest:ba)(h:C9 s r (p::rest)):D7 r p/\C9 s (bH r p) rest:=by have a:=h.2;rw[Al]at a;exact⟨aGH r p (aLg b h.1 o_),AP b r p rest h⟩
def aFg{s:Sta}(b:Base s)(r:Rd)(p:Pn)(rest:ba)(h:C9 s r (p::rest)):YV r p/\C9 s (bH r p) rest:=by have c:=h.2;rw[Al]at c;obtain⟨h1,a,h3⟩:=aKM b h.1 o_;exact⟨h1,a,by omega⟩
structure RunOK(s:Sta):Prop where
 base:Base s
 sm:StaSm' s
 ord:OrdOK s
 at':oB s.pend
 tot:Tot (ltP s) s.pend
def RunOK.start{s:Sta}(h:RunOK s):C9 s ⟨s,[],S,0⟩ (rA s):=by
 have hp:(rA s).Perm s.pend:=fC _ _;have b:s.pend.Nodup:=by have:=h.base.ids;rw[Bh,Du]at this;have:=this.1;unfold Mm at this;rw[Gj]at this;exact Jn (λh e=>h (by rw[e])) this
 have hl:=h.base.few;rw[Ah]at hl;have a:=hp.length_eq;refine⟨⟨rfl,rfl,rfl,rfl,Fc _,λp c=>hp.mem_iff.1 c,hp.symm.nodup b,λ_=>rfl,h.sm.run.2⟩,?_⟩;show 0+_<=_;omega
def lX(s:Sta):Rd:=(rA s).foldl bH ⟨s,[],S,0⟩
def yQ{s:Sta}(b:Base s):∀(L:ba) (r:Rd),C9 s r L->C9 s (L.foldl bH r) []
 |[],_,h=>h
 |p::L,r,h=>yQ b L (bH r p) (AP b r p L h)
def RunOK.few{s:Sta}(h:RunOK s):Z s.pend<40:=by have:=h.base.few;rw[Ah]at this;omega
def aJW(s:Sta)(h:RunOK s):bj 103 [s.av] (GT [(lX s).s.av,CA 3 (evv (lX s).ev) J0]):=by have a:=h.few;have hl:Z (rA s)=Z s.pend:=(fC _ _).length_eq;exact aMO (C9 s) (aCl h.base) s h.sm (rA s) o_ (aGb s h.ord a h.at' h.tot) h.start
abbrev aRg(L:ba)(i:Nat):au:=[(2,G2 2 0),(4,G2 0 0),(5,CA 11 (pnv L) J0),(6,ii i)]
abbrev aRf(r:Rd):aw:=[r3O r 0,evT 0,D9]
def aCa(b:Rd->ba->Prop)(k:∀r p rest,b r (p::rest)->YV r p/\b (bH r p) rest)(L:ba)(n:Z L<=1000000)(R:Rd):∀(m i:Nat) (r:Rd),i+m=Z L->(L.drop i).foldl bH r=R->b r (L.drop i)->
  BC E f39 (GT [R.s.av,CA 3 (evv R.ev) J0]) (aRg L i) (aRf r):=by
 have g:Z (pnv L)=Z L:=by simp
 intro m;induction m with
 |zero=>
  intro i r j a _;rw[Ae o_]at a;have a:r=R:=a;subst a;refine gV ?_;refine aF λh=>?_;refine bO hE 2 ?_;conv=>whnf
  refine To.permC hE [0,1,2,3,4,5,6,7,9] [8] (by rfl) ?_;conv=>whnf
  refine aLC ?_;conv=>whnf
  refine aLC ?_;exact zW
 |succ m l=>
  intro i r j a d;have c:i<Z L:=o_;rw[Ac c]at a d;rw[Ao]at a;obtain⟨h1,f⟩:=k _ _ _ d;have get:=uY c;generalize L[i]=p at a d h1 f get;have next:=l (i+1) (bH r p) o_ a f
  rcases h1 with⟨e,hl⟩|hl
  .rw [e]at next
   exact tA
  .exact zqya21
def aJ0(s:Sta)(h:RunOK s):bj 39 [s.av] (GT [(lX s).s.av,CA 3 (evv (lX s).ev) J0]):=by
 have a:=h.few;have hl:Z (rA s)=Z s.pend:=(fC _ _).length_eq;have h1:=aCa (C9 s) (aFg h.base) (rA s) o_ _ (Z (rA s)) 0 ⟨s,[],S,0⟩ o_ rfl h.start;have hs:=aEX s h.ord o_ h.at';rw[Bz]at h1;have e:(rA s).foldl bH ⟨s,[],S,0⟩=lX s:=rfl;rw[e]at h1;generalize lX s=R at*
 generalize rA s=L at*
 refine c_ f39 λ_=>?_
 repeat' first|refine pA ?_|refine .p hs ?_|exact rfl|refine lA ?_ ?_|intro h
 refine To.begin 2 9 82 rfl rfl ?_;exact To.part [2,4,5,6] [2,3,1] rfl rfl rfl h1
def dJ(s:Sta)(g:Gan):Sta×Int:=
 if dO s.c g≠0 then(s,dO s.c g)else
 if 0<=fN g.id s.pend\/0<=aL (bA g.id) s.run 0 then(s,5)else
 if(cE s.c [] g).isNone=O then(s,6)else
 if 32<=Z s.pend+Z s.run then(s,8)else
 ({s with pend:=iZ s.pend ⟨g,s.nxt,s.now⟩,nxt:=s.nxt+1},0)
def lH(l:a7)(t:Int):bh:=(l.filter λx=>decide (dG x<=t)).map λx=>⟨3,x.g.id,0⟩
def iH(s:Sta)(n:Int):Sta×bh×Int:=
 if n<1\/1048576<n then(s,[],1)else
 if 1099511627776-n<s.now then(s,[],8)else
 ({s with hist:=tkL s.hist (oQ s.c s.run) n s.c.half,now:=s.now+n,run:=atL s.run (s.now+n)},lH s.run (s.now+n),0)
abbrev qT(s:Sta):ab:=Do 35 s.cs
def aEU(s:Sta)(id:Int)(hl:Z s.run<=1048576)(r:Int):∀(m i:Nat),i+m=Z s.run->aL (bA id) (s.run.drop i) i=r->
  BC E f40 (ii r) [(1,ii id),(2,G2 0 0),(5,ii i)] [qT s]:=by
 have e:Z (rav s.run)=Z s.run:=by simp
 intro m;induction m with
 |zero=>
  intro i f a;exact zqya12
 |succ m d=>
  intro i f a;have b:i<Z s.run:=o_;rw[Ac b]at a;have get:(rav s.run)[i]? =X s.run[i].av:=cB b;generalize s.run[i]=x at a get;unfold aL at a;have d:=d (i+1) o_;cases c:bA id x with
  |true=>
   rw[bu c]at a;subst a;unfold bA at c;exact tA
  |false=>
   rw[bt (by rw[c];decide)]at a;have next:=d a
   unfold bA at c;exact tA
def MQ(s:Sta)(id:Int)(hl:Z s.run<=1048576):bj 40 [s.av,ii id] (ii (aL (bA id) s.run 0)):=by
 have h:=aEU s id hl _ (Z s.run) 0 o_ rfl;rw[Bz]at h;generalize aL (bA id) s.run 0=r at*
 exact c_ f40 λ_=>zW
def AO(l:ba)(a:Int)(hl:Z l<=1000000):bj 42 [CA 11 (pnv l) J0,ii a] (ii (fN a l)):=by have h:=Q2.findref_ok (l.map Pn.q) a;rw[pS]at h;exact h
def SP{c:Con}{g:Gan}(h:dO c g=0):(0<=g.pods/\g.pods<=16)/\aO g.need=true:=by
 unfold dO at h;split at h
 .rename_i a;unfold IJ at a;simp only[Af,bo]at a;exact⟨⟨by omega,by omega⟩,a.2.1⟩
 .omega
def UZ(s:Sta)(g:Gan)(k:s.c.sm)(hp:Z s.pend<=1000000)(hl:Z s.run<=1000000)(w:s.nxt<=1099511627777)(o:0<=s.nxt):
  bj 37 [s.av,g.av] (GT [(dJ s g).1.av,ii (dJ s g).2]):=by
 have h1:=V0 s.c k g;have x:=AO s.pend g.id hp;have h3:=MQ s g.id o_;have u:Z (pnv s.pend)=Z s.pend:=by simp
 have q:Z (rav s.run)=Z s.run:=by simp
 unfold dJ;by_cases d:dO s.c g≠0
 .rw [bu d];have t:(dO s.c g !=0)=true:=by simpa using d
  generalize dO s.c g=e at*
  exact zqya7
 rw[bt d];have d:dO s.c g=0:=Ds.1 d;obtain⟨m,n⟩:=SP d;rw[d]at h1;have t:((0:Int) !=0)=false:=by decide
 have l:=QL s.c k g m n;generalize fN g.id s.pend=a at*
 generalize aL (bA g.id) s.run 0=b at*
 by_cases i:0<=a\/0<=b
 .rw [bu i];by_cases p:0<=a
  .exact zqya7
  .have r:0<=b:=o_;exact zqya7
 rw[bt i];have p:a<0:=o_;have r:b<0:=o_;cases h:(cE s.c [] g).isNone with
 |true=>
  rw[h]at l;rw[bu rfl];exact zqya7
 |false=>
  rw[h]at l;rw[bt d_];by_cases j:32<=Z s.pend+Z s.run
  .rw [bu j];exact zqya7
  .rw [bt j];have v:=P3 s.pend ⟨g,s.nxt,s.now⟩ hp;generalize iZ s.pend ⟨g,s.nxt,s.now⟩=pq at*
   exact zqya7
def KY{x:Rn}{l:a7}{t:Int}(h:dG x<=t):lH (x::l) t=⟨3,x.g.id,0⟩::lH l t:=by unfold lH;rw[Gw,bu (bq h)];rfl
def KZ{x:Rn}{l:a7}{t:Int}(h:¬ dG x<=t):lH (x::l) t=lH l t:=by unfold lH;rw[Gw,bt (by simpa using h)]
def aEg(s R:Sta)(hs:Sm s.run)(n:R={s with run:=atL s.run s.now})(Q:bh):∀(m i:Nat) (ev:bh),i+m=Z s.run->Z ev<=i->ev++lH (s.run.drop i) s.now=Q->
  BC (Eo [7] []) f38 (GT [R.av,CA 3 (evv Q) J0,ii 0]) [(2,G2 0 0),(4,G2 1 0),(7,CA 3 (evv ev) (.own 2 0)),(8,ii i)] [qT s,D9,evT 0]:=by
 have f:Z (rav s.run)=Z s.run:=by simp
 have hl:=hs.1;intro m;induction m with
 |zero=>
  intro i ev j o a;rw[Ae o_]at a;have a:ev++[]=Q:=a;rw[Ap]at a;subst a;have p:=aFJ s.run hs s.now;generalize atL s.run s.now=ra at*
  subst n;exact tA
 |succ m d=>
  intro i ev j o a;have b:i<Z s.run:=o_;rw[Ac b]at a;have get:(rav s.run)[i]? =X s.run[i].av:=cB b;generalize s.run[i]=x at a get;have l:=DK x;have k:Z (evv ev)<=1048576:=by simp;omega
  by_cases h:dG x<=s.now
  .have c:lH (x::s.run.drop (i+1)) s.now=⟨3,x.g.id,0⟩::lH (s.run.drop (i+1)) s.now:=KY h;rw[c]at a;have next:=d (i+1) (ev++[⟨3,x.g.id,0⟩]) o_ q_ (by rw[Ag];exact a)
   have e:evv (ev++[⟨3,x.g.id,0⟩])=evv ev++[Ev.av ⟨3,x.g.id,0⟩]:=by simp
   rw[e]at next
   generalize dG x=t at*
   clear d a c e;exact tA
  .have c:lH (x::s.run.drop (i+1)) s.now=lH (s.run.drop (i+1)) s.now:=KZ h;rw[c]at a;have next:=d (i+1) ev o_ o_ a
   generalize dG x=t at*
   clear d a c;exact tA
def aEh(s:Sta)(n:Int)(h:s.c.sm)(hs:Sm s.run)(j:LtF s.hist)(b:Z s.hist<=1048576)(m:s.c.half<=9223372036854775807)(o: -9223372036854775808<=s.now)(i:s.now<=1099511627776)(l: -9223372036854775808<=n/\n<=9223372036854775807):
  bj 38 [s.av,ii n] (GT [(iH s n).1.av,CA 3 (evv (iH s n).2.1) J0,ii (iH s n).2.2]):=by
 unfold iH;by_cases d:n<1\/1048576<n
 .rw [bu d];by_cases q:n<1
  .exact zqya5
  .have p:1048576<n:=o_;exact zqya5
 rw[bt d];have q:1<=n:=o_;have p:n<=1048576:=o_;by_cases e:1099511627776-n<s.now
 .rw [bu e];exact zqya5
 .rw [bt e];have a:=ZW s.c s.run;have hsl:Z (oQ s.c s.run)<=1048576:=by have:=h.ns;unfold oQ ofL mK;rw[kG];simp;omega
  have h1:=VC s.c h s.run hs.1;have r:=aEV s.hist (oQ s.c s.run) j b a hsl n s.c.half o_ m;have k:=aEg {s with hist:=tkL s.hist (oQ s.c s.run) n s.c.half,now:=s.now+n} {s with hist:=tkL s.hist (oQ s.c s.run) n s.c.half,now:=s.now+n,run:=atL s.run (s.now+n)} hs rfl _ (Z s.run) 0 [] s_ s_ rfl;rw[Bz]at k;generalize tkL s.hist (oQ s.c s.run) n s.c.half=th at*
  generalize oQ s.c s.run=sh at*
  generalize lH s.run (s.now+n)=Q at*
  have t:[]++Q=Q:=rfl;generalize atL s.run (s.now+n)=ra at*
  exact zqya5
def aG(s:Sta)(x:Cmd):Sta×bh×Int:=
 if C8.chk x≠0 then(s,[],C8.chk x)else
 if x.k=1 then(if bG x.c≠0 then(s,[],bG x.c)else if 0<Z s.pend+Z s.run then(s,[],7)else({s with c:=x.c,hist:=Ak (Z x.c.ns) 0},[],0))else
 if x.k=2 then((dJ s x.g).1,[],(dJ s x.g).2)else
 if x.k=5 then iH s x.n else
 if x.k=6 then((lX s).s,(lX s).ev,0)else
 if 0<=aL (bA x.n) s.run 0 then({s with run:=aB s.run [x.n]},[],0)else
 if x.k=3\/fN x.n s.pend<0 then(s,[],4)else
 ({s with pend:=dI s.pend x.n},[],0)
abbrev apC(s:Sta)(x:Cmd)(R:Sta×bh×Int):Prop:=bj 13 [s.av,x.av] (GT [R.1.av,CA 3 (evv R.2.1) J0,ii R.2.2])
def aNd(s:Sta)(x:Cmd)(e:Int)(a:C8.chk x=e)(h:e≠0):apC s x (s,[],e):=by
 have h1:=C8.rcheck_any x e a;have b:(e !=0)=true:=by simpa using h
 exact zqya3
def aSK(s:Sta)(x:Cmd)(b:C8.chk x=0)(a:x.k=2)(At:Sta)(e:Int)(d:bj 37 [s.av,x.g.av] (GT [At.av,ii e])):apC s x (At,[],e):=by exact zqya11
def aSJ(s:Sta)(x:Cmd)(b:C8.chk x=0)(a:x.k=5)(At:Sta)(ev:bh)(e:Int)(d:bj 38 [s.av,ii x.n] (GT [At.av,CA 3 (evv ev) J0,ii e])):apC s x (At,ev,e):=by exact zqya11
def aSI(s:Sta)(x:Cmd)(b:C8.chk x=0)(a:x.k=6)(At:Sta)(ev:bh)(d:bj 39 [s.av] (GT [At.av,CA 3 (evv ev) J0])):apC s x (At,ev,0):=by exact zqya11
def aNb(s:Sta)(x:Cmd)(d:C8.chk x=0)(b:x.k=3\/x.k=4)(hs:Sm s.run)(h:0<=aL (bA x.n) s.run 0):apC s x ({s with run:=aB s.run [x.n]},[],0):=by
 have h1:=C8.rcheck_any x 0 d;have e:=MQ s x.n hs.1;have h3:=oE s.run hs [x.n] s_;generalize aL (bA x.n) s.run 0=a at*
 obtain⟨k,c,g,n⟩:=x;generalize aB s.run [n]=rn at*
 rcases b with b|b<;>dsimp only at b<;>subst b
 all_goals
  refine gA (Eo [87] []) f13 λ_=>?_;exact zW
def aQM(s:Sta)(x:Cmd)(i:C8.chk x=0)(d:x.k=3\/x.k=4)(hs:Sm s.run)(hp:Z s.pend<=1000000)(h:¬ 0<=aL (bA x.n) s.run 0)(e:x.k=3\/fN x.n s.pend<0):apC s x (s,[],4):=by
 have h1:=C8.rcheck_any x 0 i;have l:=MQ s x.n hs.1;have h3:=AO s.pend x.n hp;generalize aL (bA x.n) s.run 0=a at*
 generalize fN x.n s.pend=b at*
 obtain⟨k,c,g,n⟩:=x;dsimp only at d e;rcases d with rfl|rfl
 .exact zqya3
 .have j:b<0:=o_;exact zqya3
def aNc(s:Sta)(x:Cmd)(e:C8.chk x=0)(d:x.k=4)(hs:Sm s.run)(hp:Z s.pend<=1000000)(h:¬ 0<=aL (bA x.n) s.run 0)(l:¬ fN x.n s.pend<0):apC s x ({s with pend:=dI s.pend x.n},[],0):=by
 have h1:=C8.rcheck_any x 0 e;have j:=MQ s x.n hs.1;have h3:=AO s.pend x.n hp;have i:=JB s.pend x.n hp;generalize aL (bA x.n) s.run 0=a at*
 generalize fN x.n s.pend=b at*
 generalize dI s.pend x.n=pq at*
 obtain⟨k,c,g,n⟩:=x;dsimp only at d;subst d;exact zqya3
def aQN(s:Sta)(x:Cmd)(i:C8.chk x=0)(a:x.k=1)(d:x.c.sm)(h:bG x.c≠0):apC s x (s,[],bG x.c):=by
 have h1:=C8.rcheck_any x 0 i;have b:=check_ok x.c d;obtain⟨k,c,g,n⟩:=x;dsimp only at a h b⊢;generalize bG c=e at*
 subst a;have j:(e !=0)=true:=by simpa using h
 exact zqya3
def aIS(s:Sta)(x:Cmd)(i:C8.chk x=0)(a:x.k=1)(e:x.c.sm)(h:bG x.c=0)(hp:Z s.pend<=1000000)(hl:Z s.run<=1000000)(l:0<Z s.pend+Z s.run):apC s x (s,[],7):=by
 have h1:=C8.rcheck_any x 0 i;have b:=check_ok x.c e;have j:Z (pnv s.pend)=Z s.pend:=by simp
 have d:Z (rav s.run)=Z s.run:=by simp
 obtain⟨k,c,g,n⟩:=x;dsimp only at a h b;rw[h]at b;subst a;exact zqya3
def aIR(s:Sta)(x:Cmd)(o:C8.chk x=0)(i:x.k=1)(e:x.c.sm)(h:bG x.c=0)(hp:s.pend=[])(hl:s.run=[]):apC s x ({s with c:=x.c,hist:=Ak (Z x.c.ns) 0},[],0):=by
 have h1:=C8.rcheck_any x 0 o;have b:=check_ok x.c e;have p:Z (pnv s.pend)=0:=by rw[hp];rfl
 have m:Z (rav s.run)=0:=by rw[hl];rfl
 obtain⟨k,c,g,n⟩:=x;dsimp only at i h b e⊢;rw[h]at b;subst i;have q:=e.ns;have a:Z (nav c.ns)=Z c.ns:=by simp
 have l:(8:Int)*(Z (nav c.ns):Int)<=281474976710656:=by rw[a];omega
 have j:Z (nav c.ns)<=maxLen:=by rw[a];simp only[maxLen];omega
 have d:fv (Ak (Z c.ns) 0)=Ak (Z (nav c.ns)) (GE IH 0):=by rw[a];simp
 unfold apC Sta.av Sta.cs;dsimp only;rw[d];refine c_ f13 λ_=>gV ?_;refine .p h1 (gV ?_);refine Aa (λh=>bv h d_) (λ_=>gV ?_);refine Aa (λ_=>?_) (λh=>by cases h);refine gV ?_;refine .p b (gV ?_);refine Aa (λh=>bv h d_) (λ_=>gV ?_);refine aJ (gV ?_);refine Aa (λh=>bv (bn h) o_) (λ_=>?_);refine bO hE 2 ?_;conv=>whnf
 refine To.permC hE [0,1,2,3,4,5,7,9] [6,8,10] (by rfl) ?_;conv=>whnf
 refine aLC ?_;conv=>whnf
 refine⟨?_,?_⟩
 .conv=>whnf
  refine Exists.intro (Z (nav c.ns)) (Aa rfl ?_);conv=>whnf
  refine Aa (Aa rfl (Aa l j)) ?_;conv=>whnf
  refine aLC ?_;conv=>whnf;(try conv=>whnf)
  exact zqya17
 .conv=>whnf
  refine aLC ?_;conv=>whnf;(try conv=>whnf)
  refine Exists.intro (Z (nav c.ns)) (Aa rfl ?_);conv=>whnf
  refine Aa (Aa rfl (Aa l j)) ?_;conv=>whnf
  exact zqya17
structure StOK(s:Sta):Prop where
 c:s.c.sm
 run:RunOK s
 half:s.c.half<=9223372036854775807
 nxt:0<=s.nxt/\s.nxt<=1099511627777
def aNS{x:Cmd}(h:C8.chk x=0):1<=x.k/\x.k<=6:=by
 unfold C8.chk at h;split at h
 .rename_i a;simpa using a
 .omega
def LS(s:Sta)(x:Cmd)(h:StOK s)(t:x.k=1->x.c.sm)(r: -9223372036854775808<=x.n/\x.n<=9223372036854775807):apC s x (aG s x):=by
 have d:=h.run.sm;have l:=h.run.base.few;rw[Ah,Cb]at l;unfold aG;by_cases a:C8.chk x≠0
 .rw [bu a];exact aNd s x _ rfl a
 rw[bt a];have a:C8.chk x=0:=Ds.1 a;have u:=aNS a;by_cases f:x.k=1
 .rw [bu f];have e:=t f;by_cases b:bG x.c≠0
  .rw [bu b];exact aQN s x a f e b
  rw[bt b];have b:bG x.c=0:=Ds.1 b;by_cases o:0<Z s.pend+Z s.run
  .rw [bu o];exact aIS s x a f e b o_ o_ o
  .rw [bt o];exact aIR s x a f e b (Ch.1 o_) (Ch.1 o_)
 rw[bt f];by_cases b:x.k=2
 .rw [bu b];exact aSK s x a b _ _ (UZ s x.g h.c o_ o_ h.nxt.2 h.nxt.1)
 rw[bt b];by_cases q:x.k=5
 .rw [bu q];exact aSJ s x a q _ _ _ (aEh s x.n h.c d.run h.run.ord.lt h.run.ord.hl h.half (by have:=h.run.ord.now;omega) h.run.ord.now.2 r)
 rw[bt q];by_cases p:x.k=6
 .rw [bu p];exact aSI s x a p _ _ (aJ0 s h.run)
 rw[bt p];have j:x.k=3\/x.k=4:=o_;by_cases i:0<=aL (bA x.n) s.run 0
 .rw [bu i];exact aNb s x a j d.run i
 rw[bt i];by_cases m:x.k=3\/fN x.n s.pend<0
 .rw [bu m];exact aQM s x a j d.run o_ i m
 .rw [bt m];exact aNc s x a o_ d.run o_ i o_
def pJ(s:Sta)(h:StaSm' s):bj 95 [s.av] s.av:=by have h1:=OF s.c.ns h.ns;have a:=OG s.c.hs h.hs;have h3:=YG s.pend h.pend;have d:=YH s.hist h.hist;have b:=aA.nil2 (by have h:=qQ s.run h.run [] s_;rw[eJ]at h;exact h);exact c_ f95 λ_=>zW
def aEv(s:Sta)(id:Int)(hl:Z s.run<=1048576):bj 150 [s.av,ii id] (ii (aL (bA id) s.run 0)):=by
 have h:=GB _ id (I9 id) s.run hl;generalize aL (bA id) s.run 0=r at*
 exact c_ f150 λ_=>zW
def aJK:bj 34 [] (Sta.av ⟨⟨[],[],0,0⟩,0,1,[],[],[]⟩):=by exact c_ f34 λ_=>zW
abbrev aQ3(s At:Sta)(g:Gan)(e:Int):Prop:=ar 99 [G2 0 0,g.av] [qT s] (Io (ii e)) [qT At]
def aJE(s:Sta)(g:Gan)(q:s.c.sm)(hp:Z s.pend<=1000000)(hl:Z s.run<=1000000)(v:s.nxt<=1099511627777)(m:0<=s.nxt):aQ3 s (dJ s g).1 g (dJ s g).2:=by
 have h1:=PN s.c g;have w:=aFU s.pend g.id;have h3:=aEv s g.id o_;have r:Z (pnv s.pend)=Z s.pend:=by simp
 have o:Z (rav s.run)=Z s.run:=by simp
 unfold dJ;by_cases d:dO s.c g≠0
 .rw [bu d];have x:(dO s.c g !=0)=true:=by simpa using d
  generalize dO s.c g=e at*
  exact zqya2
 rw[bt d];have d:dO s.c g=0:=Ds.1 d;obtain⟨l,u⟩:=SP d;rw[d]at h1;have k:=RS s.c q g l;generalize fN g.id s.pend=a at*
 generalize aL (bA g.id) s.run 0=b at*
 by_cases i:0<=a\/0<=b
 .rw [bu i];by_cases n:0<=a
  .exact zqya2
  .have p:0<=b:=o_;exact zqya2
 rw[bt i];have n:a<0:=o_;have p:b<0:=o_;cases h:(cE s.c [] g).isNone with
 |true=>
  rw[h]at k;rw[bu rfl];exact zqya2
 |false=>
  rw[h]at k;rw[bt d_];by_cases j:32<=Z s.pend+Z s.run
  .rw [bu j];exact zqya2
  .rw [bt j];have t:=M6 s.pend ⟨g,s.nxt,s.now⟩ hp;generalize iZ s.pend ⟨g,s.nxt,s.now⟩=pq at*
   exact zqya2
def aM3(n a b:Int)(r:Bool)(d:(decide (a<=n)&&decide (n<=b))=r):bj 155 [ii n,ii a,ii b] (DA r):=by
 by_cases h1:a<=n
 .by_cases c:n<=b
  .have e:r=true:=by rw[<-d,bq h1,bq c];rfl
   subst e;refine c_ f155 λ_=>?_
   repeat' first|refine pA ?_|exact rfl|refine lA ?_ ?_|intro h
   all_goals exact congrArg (λb=>Res.ret (aa.bool b)) (bq c)
  .have e:r=false:=by rw[<-d,bq h1,bp c];rfl
   subst e;refine c_ f155 λ_=>?_
   repeat' first|refine pA ?_|exact rfl|refine lA ?_ ?_|intro h
   all_goals exact congrArg (λb=>Res.ret (aa.bool b)) (bp c)
 .have e:r=false:=by rw[<-d,bp h1];rfl
  subst e;exact c_ f155 λ_=>zW
abbrev aTf(R:Sta)(Q:bh)(e:Int):Goal:=.full 1 (Io (GT [CA 3 (evv Q) J0,ii e])) [qT R]
def aGQ(s R:Sta)(hs:Sm s.run)(l:R={s with run:=atL s.run s.now})(Q:bh):∀(m i:Nat) (ev:bh),i+m=Z s.run->Z ev<=i->ev++lH (s.run.drop i) s.now=Q->
  To (Eo [6] []) f102 (aTf R Q 0) (BB f102 [(0,G2 0 0),(6,CA 3 (evv ev) (.own 1 0)),(55,CA 14 (rav s.run) J0),(56,GE Is (Z (rav s.run):Nat)),(57,ii i)] [qT s,evT 0]):=by
 have e:Z (rav s.run)=Z s.run:=by simp
 have hl:=hs.1;intro m;induction m with
 |zero=>
  intro i ev h n a;rw[Ae o_]at a;have a:ev++[]=Q:=a;rw[Ap]at a;subst a;have o:=aIN s.run hs s.now;generalize atL s.run s.now=ra at*
  subst l;exact tA
 |succ m c=>
  intro i ev h n a;have b:i<Z s.run:=o_;rw[Ac b]at a;have get:(rav s.run)[i]? =X s.run[i].av:=cB b;generalize s.run[i]=x at a get;have k:=GW x;have j:Z (evv ev)<=1048576:=by simp;omega
  by_cases f:dG x<=s.now
  .rw [KY f]at a;have next:=c (i+1) (ev++[⟨3,x.g.id,0⟩]) o_ q_ (by rw[Ag];exact a)
   have d:evv (ev++[⟨3,x.g.id,0⟩])=evv ev++[Ev.av ⟨3,x.g.id,0⟩]:=by simp
   rw[d]at next
   generalize dG x=t at*
   clear c a d;exact tA
  .rw [KZ f]at a;have next:=c (i+1) ev o_ o_ a
   generalize dG x=t at*
   clear c a;exact tA
def aGP(s:Sta)(n:Int)(k:s.c.sm)(hs:Sm s.run)(m:LtF s.hist)(d:Z s.hist<=1048576)(p:s.c.half<=9223372036854775807)(r:0<=s.now)(l:s.now<=1099511627776):
  ((iH s n).2.2≠0->ar 102 [G2 0 0,ii n] [qT s] (Io (GT [CA 3 [] .nil,ii (iH s n).2.2])) [qT (iH s n).1])/\((iH s n).2.2=0->ar 102 [G2 0 0,ii n] [qT s] (Io (GT [CA 3 (evv (iH s n).2.1) J0,ii 0])) [qT (iH s n).1]):=by
 have i:=aM3 n 1 1048576 _ rfl;unfold iH;by_cases a:n<1\/1048576<n
 .rw [bu a];have e:(decide (1<=n)&&decide (n<=1048576))=false:=by
   rcases a with q|q
   .rw [bp o_];rfl
   .rw [bp (show ¬ n<=1048576 by omega),Bool.and_false]
  rw[e]at i;refine⟨λ_=>?_,λh=>by cases h⟩;exact zqya10
 rw[bt a];have u:1<=n:=o_;have t:n<=1048576:=o_;rw[bq u,bq t]at i;by_cases j:1099511627776-n<s.now
 .rw [bu j];refine⟨λ_=>?_,λh=>by cases h⟩;exact zqya10
 .rw [bt j];refine⟨λh=>bv rfl h,λ_=>?_⟩;have b:=ZW s.c s.run;have hsl:Z (oQ s.c s.run)<=1048576:=by have:=k.ns;unfold oQ ofL mK;rw[kG];simp;omega
  have h1:=aB4 s.c k s.run hs.1;have v:=aJr s.hist (oQ s.c s.run) m d b hsl n s.c.half o_ p;have o:=aGQ {s with hist:=tkL s.hist (oQ s.c s.run) n s.c.half,now:=s.now+n} {s with hist:=tkL s.hist (oQ s.c s.run) n s.c.half,now:=s.now+n,run:=atL s.run (s.now+n)} hs rfl _ (Z s.run) 0 [] s_ s_ rfl;rw[Bz]at o;generalize tkL s.hist (oQ s.c s.run) n s.c.half=th at*
  generalize oQ s.c s.run=sh at*
  generalize lH s.run (s.now+n)=Q at*
  generalize atL s.run (s.now+n)=ra at*
  exact zqya10
abbrev aBn(s At:Sta)(c:Con)(e:Int):Prop:=ar 98 [G2 0 0,c.av] [qT s] (Io (ii e)) [qT At]
theorem aIm(s:Sta)(c:Con)(a:c.sm)(h:bG c≠0):aBn s s c (bG c):=by
 have h1:=uZ c a;generalize bG c=e at*
 have b:(e !=0)=true:=by simpa using h
 exact zqya15
theorem aDw(s:Sta)(c:Con)(b:c.sm)(h:bG c=0)(hp:Z s.pend<=1000000)(hl:Z s.run<=1000000)(e:0<Z s.pend+Z s.run):aBn s s c 7:=by
 have h1:=uZ c b;rw[h]at h1;have d:Z (pnv s.pend)=Z s.pend:=by simp
 have a:Z (rav s.run)=Z s.run:=by simp
 exact zqya15
def aDS(c:Con):Y0 c=Ak (Z c.ns) 0:=by
 unfold Y0;have h:∀(l:bc) (i:Nat),dC (λ_ _=>0) l i=Ak (Z l) 0:=by
  intro l;induction l with
  |nil=>intro i;rfl
  |cons x l a=>intro i;unfold dC;rw[a];rfl
 exact h _ 0
theorem OC(s:Sta)(c:Con)(a:c.sm)(h:bG c=0)(hp:s.pend=[])(hl:s.run=[]):aBn s {s with c:=c,hist:=Ak (Z c.ns) 0} c 0:=by
 have h1:=uZ c a;rw[h]at h1;have j:Z (pnv s.pend)=0:=by rw[hp];rfl
 have i:Z (rav s.run)=0:=by rw[hl];rfl
 have k:=a.ns;have b:=a.hs;have e:=OF c.ns o_;have h3:=OG c.hs o_;have d:=aI6 c a;rw[aDS]at d;generalize Ak (Z c.ns) 0=z at*
 refine eA (Er [] [24,38]) f98 1 λ_=>?_
 repeat' first|refine pA ?_|refine .p h1 ?_|refine .p e ?_|exact rfl|refine lA ?_ ?_|intro h
 refine .p h3 ?_;refine bO (hEr [] [24,38]) 27 ?_;conv=>whnf
 refine To.permC (hEr [] [24,38]) [0,1,2,3,4,5,6,7,8] [9,10,11,12,13] (by rfl) ?_;conv=>whnf
 refine aLC ?_;conv=>whnf;conv=>whnf
 refine aLC ?_;conv=>whnf;conv=>whnf
 refine aLC ?_;conv=>whnf;conv=>whnf
 refine aLC ?_;conv=>whnf;conv=>whnf
 refine aLC ?_;conv=>whnf;conv=>whnf
 refine aLC ?_;conv=>whnf
 exact zW
abbrev ofC(x:Cmd)(v:aa):Prop:=bj 97 [x.av] v
def aTd(x:Cmd)(a:x.k=1):ofC x (.iface 169 (He x.c.cs)):=by exact zqya1
def aTc(x:Cmd)(a:x.k=2):ofC x (.iface 173 (He x.g.cs)):=by exact zqya1
def aRw(x:Cmd)(a:x.k=3):ofC x (.iface 176 (He [ii x.n])):=by exact zqya1
def aPj(x:Cmd)(a:x.k=4):ofC x (.iface 178 (He [ii x.n])):=by exact zqya1
def aTb(x:Cmd)(a:x.k=5):ofC x (.iface 180 (He [ii x.n])):=by exact zqya1
def aTa(x:Cmd)(a:x.k=6):ofC x (.iface 183 (He [])):=by exact zqya1
abbrev lW(s:Sta)(x:Cmd)(R:Sta×bh×Int):Prop:=bj 60 [s.av,x.av] (GT [R.1.av,CA 3 (evv R.2.1) J0,ii R.2.2])
def aJT(s:Sta)(hs:StaSm' s)(x:Cmd)(e:Int)(a:C8.chk x=e)(h:e≠0):lW s x (s,[],e):=by
 have b:=pJ s hs;have h1:=C8.check_any x e a;have c:(e !=0)=true:=by simpa using h
 exact zqya23
def aRe(s:Sta)(hs:StaSm' s)(x:Cmd)(m:C8.chk x=0)(i:x.k=2)(At:Sta)(e:Int)(j:e≠0->At=s)(a:aQ3 s At x.g e):lW s x (At,[],e):=by
 have c:=pJ s hs;have h1:=C8.check_any x 0 m;have d:=aTc x i;by_cases b:e=0
 .subst b;refine c_ f60 λ_=>?_
  repeat' first|refine pA ?_|refine .p c ?_|refine .p h1 ?_|refine .p d ?_|refine .eff [] [4] _ _ rfl a ?_|exact rfl|refine lA ?_ ?_|intro h
 .have l:(e !=0)=true:=by simpa using b
  rw[j b]at a⊢;refine c_ f60 λ_=>?_
  repeat' first|refine pA ?_|refine .p c ?_|refine .p h1 ?_|refine .p d ?_|refine .eff [] [4] _ _ rfl a ?_|refine Aa (λ_=>?_) (λh=>bv (l.symm.trans h) d_)|exact rfl|refine lA ?_ ?_|intro h
def aRb(s:Sta)(hs:StaSm' s)(x:Cmd)(b:C8.chk x=0)(a:x.k=6)(At:Sta)(ev:bh)(d:bj 103 [s.av] (GT [At.av,CA 3 (evv ev) J0])):lW s x (At,ev,0):=by have c:=pJ s hs;have h1:=C8.check_any x 0 b;have e:=aTa x a;exact zqya23
def aRc(s:Sta)(hs:StaSm' s)(x:Cmd)(m:C8.chk x=0)(i:x.k=5)(At:Sta)(ev:bh)(e:Int)(j:e≠0->At=s/\ev=[])
  (d:(e≠0->ar 102 [G2 0 0,ii x.n] [qT s] (Io (GT [CA 3 [] .nil,ii e])) [qT At])/\(e=0->ar 102 [G2 0 0,ii x.n] [qT s] (Io (GT [CA 3 (evv ev) J0,ii 0])) [qT At])):lW s x (At,ev,e):=by
 have b:=pJ s hs;have h1:=C8.check_any x 0 m;have c:=aTb x i;by_cases a:e=0
 .have h3:=d.2 a;subst a;refine c_ f60 λ_=>?_
  repeat' first|refine pA ?_|refine .p b ?_|refine .p h1 ?_|refine .p c ?_|refine .eff [] [4] _ _ rfl h3 ?_|exact rfl|refine lA ?_ ?_|intro h
 .have l:(e !=0)=true:=by simpa using a
  have h3:=d.1 a;obtain⟨rfl,rfl⟩:=j a;refine c_ f60 λ_=>?_
  repeat' first|refine pA ?_|refine .p b ?_|refine .p h1 ?_|refine .p c ?_|refine .eff [] [4] _ _ rfl h3 ?_|refine Aa (λ_=>?_) (λh=>bv (l.symm.trans h) d_)|exact rfl|refine lA ?_ ?_|intro h
theorem aEK(s:Sta)(hs:StaSm' s)(x:Cmd)(n:C8.chk x=0)(j:x.k=1)(At:Sta)(e:Int)(l:e≠0->At=s)(a:aBn s At x.c e):lW s x (At,[],e):=by
 have d:=pJ s hs;have h1:=C8.check_any x 0 n;have i:=aTd x j;by_cases b:e=0
 .subst b;refine c_ f60 λ_=>?_
  repeat' first|refine pA ?_|refine .p d ?_|refine .p h1 ?_|refine .p i ?_|refine .eff [] [4] _ _ rfl a ?_|exact rfl|refine lA ?_ ?_|intro h
 .have m:(e !=0)=true:=by simpa using b
  rw[l b]at a⊢;refine c_ f60 λ_=>?_
  repeat' first|refine pA ?_|refine .p d ?_|refine .p h1 ?_|refine .p i ?_|refine .eff [] [4] _ _ rfl a ?_|refine Aa (λ_=>?_) (λh=>bv (m.symm.trans h) d_)|exact rfl|refine lA ?_ ?_|intro h
def W3(n:Nat)(id:Int)(d:∀x:Rn,aA Tryz.prog n [x.av,.ptr [ii id]] [] (Io (DA (bA id x))) [])(l:a7)(hl:Z l<=1048576)(r:Int):∀(m i:Nat),i+m=Z l->aL (bA id) (l.drop i) i=r->
  To E f211 (.full 1 (Io (ii r)) (AT l)) (BB f211 [(0,.row 0 0),(1,idF n id),(7,GE Is (Z (rav l):Nat)),(8,ii i)] (AT l)):=by
 have f:Z (rav l)=Z l:=by simp
 intro m;induction m with
 |zero=>
  intro i h a;exact zqya12
 |succ m e=>
  intro i h a;have b:i<Z l:=o_;rw[Ac b]at a;have get:(rav l)[i]? =X l[i].av:=cB b;generalize l[i]=x at a get;unfold aL at a;have g:=d x;have e:=e (i+1) o_;cases c:bA id x with
  |true=>
   exact zqya24
  |false=>
   exact zqya16
def aG4(n:Nat)(id:Int)(a:∀x:Rn,aA Tryz.prog n [x.av,.ptr [ii id]] [] (Io (DA (bA id x))) [])(l:a7)(hl:Z l<=1048576):ar 211 [.row 0 0,idF n id] (AT l) (Io (ii (aL (bA id) l 0))) (AT l):=by
 have h:=W3 n id a l hl _ (Z l) 0 o_ rfl;rw[Bz]at h;generalize aL (bA id) l 0=r at*
 refine eA E f211 1 λ_=>?_;exact zW
def IX(s:Sta)(id:Int)(hl:Z s.run<=1048576):ar 150 [s.avR 0 0,ii id] (AT s.run) (Io (ii (aL (bA id) s.run 0))) (AT s.run):=by
 have h:=aG4 _ id (I9 id) s.run hl;generalize aL (bA id) s.run 0=r at*
 refine eA E f150 1 λ_=>?_
 repeat' first|refine pA ?_|refine .eff [2] [0] _ _ rfl h ?_|exact rfl|refine lA ?_ ?_|intro h
 refine⟨[],[0],⟨rfl,rfl⟩,rfl,rfl⟩
abbrev D8:aa:=He [ii 0,ii 0,ii 0,ii 0,ii 0,ii 0,ii 0,ii 0,ii 0,ii 0,ii 0,ii 0,ii 0,CA 1 [] J0]
def VX(xs:a7)(i:Nat)(d:i<Z xs)(e:Z xs<=1000000):ar 153 [.row 0 0,GE Is i,GE Is ((i:Int)+1)] (AT xs)
  (Io (.sub 0 0 0 (Z xs-1) 14)) [.row 0 14 85 (rav (xs.eraseIdx i)++[D8])]:=by
 refine eA E f153 1 λ_=>gV ?_;refine⟨i,rfl,gV ?_⟩;refine⟨i+1,by push_cast;rfl,?_⟩;refine gV ?_;refine⟨Z xs,by simp,gV ?_⟩;refine⟨⟨⟨by omega,by omega⟩,by simp⟩,gV ?_⟩;refine⟨λh=>?_,λh=>?_⟩
 .simp at h;omega
 .refine gV ?_;refine⟨i,rfl,gV ?_⟩;refine⟨by simp;omega,?_⟩;refine gV ?_;refine⟨i+1,by push_cast;rfl,?_⟩;refine gV ?_;refine⟨by simp;omega,?_⟩;refine gV ?_;have a:Z (rav xs)=Z xs:=by simp
  have b:Z (List.take (Z (rav xs)-(i+1)) (List.drop (i+1) (rav xs)))=Z xs-(i+1):=by simp
  rw[b,a];refine⟨by omega,gV ?_⟩;refine⟨Z xs-1,by omega,gV ?_⟩;refine⟨Z xs,rfl,gV ?_⟩;refine⟨by simp;omega,?_⟩;refine gV ?_;refine⟨[],[0],⟨rfl,rfl⟩,?_⟩;conv=>whnf
  refine⟨?_,?_⟩
  .show Res.ret (.sub 0 0 0 (i+(Z xs-(i+1))) 14)=_;rw[show i+(Z xs-(i+1))=Z xs-1 from by omega]
  .have h:=Q2.del_list (rav xs) i (by rw[a];exact d) D8;rw[a]at h;have c:(rav xs).eraseIdx i=rav (xs.eraseIdx i):=by simp only[rav,List.eraseIdx_eq_take_drop_succ,Bh,List.map_take,List.map_drop]
   rw[c]at h;exact congrArg (λl=>[ab.row 0 14 85 l]) h
abbrev aQ6(s:Sta)(run:aa):ab:=Do 35 [CA 11 (nav s.c.ns) J0,CA 6 (hav s.c.hs) J0,ii s.c.half,ii s.c.age,ii s.now,ii s.nxt,CA 11 (pnv s.pend) J0,run,CA 1 (fv s.hist) J0]
abbrev aOq(s:Sta):aw:=[aQ6 s (.row 1 0),.row 0 14 85 (rav s.run)]
def ZR(s:Sta)(id:Int)(hl:Z s.run<=1000000)(h:¬ 0<=aL (bA id) s.run 0):ar 100 [G2 0 0,ii id] (aOq s) (Io (ii 4)) (aOq s):=by
 have h1:=IX s id o_;generalize aL (bA id) s.run 0=a at*
 exact zqya20
def ZQ(s:Sta)(id:Int)(i:Nat)(hl:Z s.run<=1000000)(a:i<Z s.run)(h:aL (bA id) s.run 0=(i:Int)):ar 100 [G2 0 0,ii id] (aOq s) (Io (ii 0)) [aQ6 s (.sub 1 0 0 (Z s.run-1) 14),.row 0 14 85 (rav (s.run.eraseIdx i)++[D8])]:=by
 have h1:=IX s id o_;have b:=VX s.run i a hl;rw[h]at h1;generalize Z s.run-1=q at*
 generalize rav (s.run.eraseIdx i)++[D8]=K at*
 exact zqya20
theorem aOD(s:Sta)(hs:StaSm' s)(x:Cmd)(e:C8.chk x=0)(a:x.k=3)(hl:Z s.run<=1000000)(h:¬ 0<=aL (bA x.n) s.run 0):lW s x (s,[],4):=by
 have b:=DF s hs;have h1:=C8.check_any x 0 e;have c:=aRw x a;have d:=ZR s x.n hl h;refine c_ f60 λ_=>?_
 repeat' first|refine pA ?_|refine .p b ?_|refine .p h1 ?_|refine .p c ?_|refine .eff [] [6,5] _ _ rfl d ?_|exact rfl|refine lA ?_ ?_|intro h
def aIh(l:a7)(i:Nat)(a:i<Z l):((rav (l.eraseIdx i)++[D8]).drop 0).take (Z l-1)=rav (l.eraseIdx i):=by
 have h:Z (rav (l.eraseIdx i))=Z l-1:=by simp[List.length_eraseIdx,a]
 rw[Bz,<-h,List.take_left'];rfl
def aRd(s:Sta)(hs:StaSm' s)(x:Cmd)(l:C8.chk x=0)(c:x.k=3)(hl:Z s.run<=1000000)(i:Nat)(a:i<Z s.run)(h:aL (bA x.n) s.run 0=(i:Int)):lW s x ({s with run:=s.run.eraseIdx i},[],0):=by
 have d:=DF s hs;have h1:=C8.check_any x 0 l;have e:=aRw x c;have j:=ZQ s x.n i hl a h;have b:=aIh s.run i a;unfold lW Sta.av Sta.cs;dsimp only;rw[<-b];generalize Z s.run-1=q at*
 generalize rav (s.run.eraseIdx i)++[D8]=K at*
 clear b;refine c_ f60 λ_=>?_
 repeat' first|refine pA ?_|refine .p d ?_|refine .p h1 ?_|refine .p e ?_|refine .eff [] [6,5] _ _ rfl j ?_|exact rfl|refine lA ?_ ?_|intro h
def aOA(s:Sta)(hs:StaSm' s)(x:Cmd)(b:C8.chk x=0)(a:x.k=4)(hp:Z s.pend<=1000000)(h:¬ fN x.n s.pend<0):lW s x ({s with pend:=dI s.pend x.n},[],0):=by
 have d:=pJ s hs;have h1:=C8.check_any x 0 b;have e:=aPj x a;have c:=tJ s.pend x.n hp;rw[bp h]at c;generalize dI s.pend x.n=pq at*
 exact zqya23
def PC{l:ba}{a:Int}(h:fN a l<0):dI l a=l:=by unfold dI;rw[bu h]
theorem aOC(s:Sta)(hs:StaSm' s)(x:Cmd)(j:C8.chk x=0)(c:x.k=4)(hp:Z s.pend<=1000000)(hl:Z s.run<=1000000)(h:fN x.n s.pend<0)(b:¬ 0<=aL (bA x.n) s.run 0):lW s x (s,[],4):=by
 have d:=DF s hs;have h1:=C8.check_any x 0 j;have e:=aPj x c;have a:=tJ s.pend x.n hp;rw[bq h,PC h]at a;have i:=ZR s x.n hl b;refine c_ f60 λ_=>?_
 repeat' first|refine pA ?_|refine .p d ?_|refine .p h1 ?_|refine .p e ?_|refine .p a ?_|refine .eff [] [6,5] _ _ rfl i ?_|exact rfl|refine lA ?_ ?_|intro h
theorem aOB(s:Sta)(hs:StaSm' s)(x:Cmd)(o:C8.chk x=0)(e:x.k=4)(hp:Z s.pend<=1000000)(hl:Z s.run<=1000000)(h:fN x.n s.pend<0)(i:Nat)(a:i<Z s.run)(d:aL (bA x.n) s.run 0=(i:Int)):lW s x ({s with run:=s.run.eraseIdx i},[],0):=by
 have j:=DF s hs;have h1:=C8.check_any x 0 o;have l:=aPj x e;have b:=tJ s.pend x.n hp;rw[bq h,PC h]at b;have m:=ZQ s x.n i hl a d;have c:=aIh s.run i a;unfold lW Sta.av Sta.cs;dsimp only;rw[<-c];generalize Z s.run-1=q at*
 generalize rav (s.run.eraseIdx i)++[D8]=K at*
 clear c;refine c_ f60 λ_=>?_
 repeat' first|refine pA ?_|refine .p j ?_|refine .p h1 ?_|refine .p l ?_|refine .p b ?_|refine .eff [] [6,5] _ _ rfl m ?_|exact rfl|refine lA ?_ ?_|intro h
def aNQ(id:Int):∀(l:a7) (k i:Nat),(l.map λx=>x.g.id).Nodup->aL (bA id) l k=((k+i:Nat):Int)->l.eraseIdx i=aB l [id]
 |[],k,i,_,h=>by have h:(-1:Int)=((k+i:Nat):Int):=h;omega
 |x::l,k,i,hn,h=>by
  rw[Bg,Ce]at hn;unfold aL at h;by_cases a:bA id x=O
  .rw [bu a]at h;obtain rfl:i=0:=o_;have b:x.g.id=id:=by unfold bA at a;simpa using a
   have h1:inB x.g.id [id]=true:=DU.2 (by rw[b];exact List.mem_singleton_self _);rw[kW h1];show l=_;refine(List.filter_eq_self.2 λy e=>?_).symm
   grind[Cn,DU]
  .rw [bt a]at h;rcases nI (bA id) l (k+1)with c|c
   .omega
   .obtain ⟨j,rfl⟩:∃j,i=j+1:=⟨i-1,by omega⟩
    have h1:inB x.g.id [id]=false:=by
     cases d:inB x.g.id [id]with
     |false=>rfl
     |true=>exact bv (by unfold bA;simpa using DU.1 d) a
    rw[kV h1];show x::l.eraseIdx j=_;rw[aNQ id l (k+1) j hn.2 (by rw[h];congr 1;omega)]
def aM1{s:Sta}(b:Base s){n:Int}(h1:¬ fN n s.pend<0)(c:0<=aL (bA n) s.run 0):False:=by
 obtain⟨d,i⟩:=ED c;rcases DY n s.pend with⟨_,h⟩|⟨A,p,B,e,hp,_⟩
 .omega
 .have a:=b.ids;rw[Bh,Du]at a;exact a.2.2 n (by grind[Cn,Cx,Aw]) n (by rw[<-i,Dx];exact Cn (f:=(λx=>x.g.id) ∘ Rn.pn) d) rfl
def PG(s:Sta)(g:Gan):(dJ s g).2≠0->(dJ s g).1=s:=by
 unfold dJ
 grind
def IS(s:Sta)(n:Int):(iH s n).2.2≠0->(iH s n).1=s/\(iH s n).2.1=[]:=by
 unfold iH
 grind
def I6(s:Sta)(x:Cmd)(h:StOK s)(A:x.k=1->x.c.sm):lW s x (aG s x):=by
 have a:=h.run.sm;have o:=h.run.base.few;have f:=RE (aj.once h.run.base (s:=s) (r:=⟨s,[],S,0⟩) (rest:=[]) ⟨rfl,rfl,rfl,rfl,Fc _,λp hp=>(by cases hp),Hu,λ_=>rfl,a.run.2⟩);rw[Ah,Cb]at o;unfold aG;by_cases b:C8.chk x≠0
 .rw [bu b];exact aJT s a x _ rfl b
 rw[bt b];have b:C8.chk x=0:=Ds.1 b;have B:=aNS b;by_cases m:x.k=1
 .rw [bu m];have y:=A m;by_cases d:bG x.c≠0
  .rw [bu d]
   grind[aEK,aIm]
  rw[bt d];have d:bG x.c=0:=Ds.1 d;by_cases l:0<Z s.pend+Z s.run
  .rw [bu l]
   grind[aEK,aDw]
  .rw [bt l]
   grind[aEK,OC,Ch]
 rw[bt m];by_cases d:x.k=2
 .rw [bu d];exact aRe s a x b d _ _ (PG s x.g) (aJE s x.g h.c o_ o_ h.nxt.2 h.nxt.1)
 rw[bt d];by_cases u:x.k=5
 .rw [bu u];exact aRc s a x b u _ _ _ (IS s x.n) (aGP s x.n h.c a.run h.run.ord.lt h.run.ord.hl h.half h.run.ord.now.1 h.run.ord.now.2)
 rw[bt u];by_cases t:x.k=6
 .rw [bu t];exact aRb s a x b t _ _ (aJW s h.run)
 rw[bt t];by_cases j:0<=aL (bA x.n) s.run 0
 .rw [bu j]
  obtain⟨i,v⟩:∃i:Nat,aL (bA x.n) s.run 0=(i:Int):=⟨_,(Int.toNat_of_nonneg j).symm⟩
  have q:i<Z s.run:=by rcases nI (bA x.n) s.run 0 with z|z<;>omega
  rw[<-aNQ x.n s.run 0 i f (by rw[v];congr 1;omega)];by_cases l:x.k=3
  .exact aRd s a x b l o_ i q v
  .have C:fN x.n s.pend<0:=Ll λe=>aM1 h.run.base e j
   grind[aOB]
 rw[bt j];by_cases w:x.k=3\/fN x.n s.pend<0
 .rw [bu w]
  grind[aOD,aOC]
 .rw [bt w];exact aOA s a x b o_ o_ o_
def pI:Sta:=⟨⟨[],[],0,0⟩,0,1,[],[],[]⟩
def ER{f:Rn->Int}(q:Rn->Bool):∀{l:a7},(∀x∈l,0<=f x)->cR ((l.filter q).map f)<=cR (l.map f)
 |[],_=>Ei _
 |x::l,h=>by
  have c:=ER q (l:=l) λy b=>h y (Az _ b);have d:=h x (Aw ..);have e:cR ((x::l).map f)=f x+cR (l.map f):=rfl;by_cases a:q x=O
  .rw [Ft a,e];show f x+cR _<=_;omega
  .rw [Fs a,e];omega
def PF{f:Rn->Int}{x:Rn}:∀{l:a7},cR ((l++[x]).map f)=cR (l.map f)+f x
 |[]=>by show f x+0=0+f x;omega
 |y::l=>by show f y+cR ((l++[x]).map f)=f y+cR (l.map f)+f x;rw[PF];omega
def TX{c:Con}{free:a8}{g:Gan}{hs:ax}:sP c free g hs=O↔(Z hs:Int)=g.pods/\(∃G∈gpL c g.lev,∀u∈hs,u∈G)/\∀u∈hs,0<=u/\u<(Z free:Int)/\((hs.count u:Nat):Int)<=dM ((free[u.toNat]?).getD V3.zero) g.need:=by
 constructor
 .intro h;obtain⟨h1,f⟩:=OI h;refine⟨h1,?_,f⟩;unfold sP at h;rw[bu h1,Fq]at h;obtain⟨G,i,h⟩:=h;unfold chkG at h;rw[Af]at h;exact⟨G,i,xX.1 h.1⟩
 .intro ⟨h1,⟨G,i,f⟩,h3⟩;unfold sP;rw[bu h1,Fq];refine⟨G,i,?_⟩;unfold chkG;rw[xX.2 f,Bool.true_and];unfold GL;rw[Ck];intro u j;obtain⟨a,b,d⟩:=h3 u j;unfold aHs;rw[bt q_,bt q_];have e:C5 u hs=((hs.count u:Nat):Int):=by unfold C5;rw[BJ];omega
  rw[e];simp;omega
def aE7{free need:V3}{n:Int}(f:aO need=O)(h1:1<=n)(e:n<=16):n<=dM free need↔need.a*n<=free.a/\need.b*n<=free.b/\need.c*n<=free.c:=by
 constructor
 .exact uT f h1
 .intro ⟨a,b,d⟩;obtain⟨g,k,i⟩:=cC f;have key:∀x y:Int,0<=x->x*n<=y->x<=y:=λx y l h=>by have:x*1<=x*n:=Int.mul_le_mul_of_nonneg_left h1 l;omega
  have j:bY need free=true:=uP.2 ⟨key _ _ g.1 a,key _ _ k.1 b,key _ _ i.1 d⟩;exact(DI f j n).2 ⟨e,a,b,d⟩
structure ao(g:Gan):Prop where
 v:aO g.need=O
 pods:1<=g.pods/\g.pods<=16
 lev:0<=g.pref/\g.pref<=g.lev/\g.lev<=3
 run:1<=g.run/\g.run<=1048576
 id:1<=g.id
def iU{c:Con}{g:Gan}(h:dO c g=0):ao g:=by obtain⟨h1,_⟩:=qD.1 h;unfold IJ at h1;simp only[Af,bo]at h1;exact⟨h1.2.1,by omega,by omega,by omega,by omega⟩
def uM(p:V3->Int)(c:Con)(l:a7):Prop:=∀j:Nat,j<Z c.hs->cR (l.map (BX p (j:Int)))<=p (bC c.hs (j:Int)).c
def aNX(c:Con)(r:Rn):Prop:=(Z r.hs:Int)=r.g.pods/\(∃G∈gpL c r.g.lev,∀u∈r.hs,u∈G)/\∀u∈r.hs,0<=u/\u<(Z c.hs:Int)
structure HstOK(c:Con)(l:a7):Prop where
 a:uM V3.a c l
 b:uM V3.b c l
 d:uM V3.c c l
def uM.filter{p:V3->Int}{c:Con}{l:a7}(q:Rn->Bool)(e:∀v,aO v=O->0<=p v)(a:∀x∈l,ao x.g)(h:uM p c l):uM p c (l.filter q):=λj b=>
 Int.le_trans (ER q λx d=>Ji (e _ (a x d).v) o_) (h j b)
def HstOK.filter{c:Con}{l:a7}(q:Rn->Bool)(f:∀x∈l,ao x.g)(h:HstOK c l):HstOK c (l.filter q):=
 ⟨h.a.filter q (λ_ e=>(cC e).1.1) f,h.b.filter q (λ_ e=>(cC e).2.1.1) f,h.d.filter q (λ_ e=>(cC e).2.2.1) f⟩
def aQx{c:Con}{l:a7}(D:bG c=0)(o:∀x∈l,ao x.g)(t:(l.map λx=>x.g.id).Nodup)(k:HstOK c l){r:Rn}(n:r∈l)(hp:aNX c r):sP c (iB c (l.filter λx=>!(x.g.id==r.g.id))) r.g r.hs=true:=by
 obtain⟨B,F,A⟩:=hp;refine TX.2 ⟨B,F,λu q=>?_⟩;obtain⟨y,z⟩:=A u q;rw[zN];refine⟨y,z,?_⟩;have m:=o r n;have s:0<r.hs.count u:=Lh.2 q;have G:r.hs.count u<=Z r.hs:=List.count_le_length;have C:=m.pods;refine(aE7 m.v o_ o_).2 ?_
 obtain⟨j,rfl⟩:∃j:Nat,u=(j:Int):=⟨u.toNat,by omega⟩
 have i:j<Z c.hs:=o_;have key:∀p:V3->Int,Prj p->(∀v,aO v=O->0<=p v/\p v<=1048576)->uM p c l->p r.g.need*((r.hs.count (j:Int):Nat):Int)<=p (((iB c (l.filter λx=>!(x.g.id==r.g.id)))[(j:Int).toNat]?).getD V3.zero):=λp hp h hs=>by rw[Bm,aAU hp (λj i=>h _ (YN D i)) (λx w=>h _ (o x (Fh.1 w).1).v) i];have h1:=hs j i;rw[ZM (f:=BX p (j:Int)) n t]at h1;have e:BX p (j:Int) r=p r.g.need*((r.hs.count (j:Int):Nat):Int):=rfl;rw[<-e];omega
 exact⟨key _ aKG (λ_ h=>(cC h).1) k.a,key _ aKF (λ_ h=>(cC h).2.1) k.b,key _ aKE (λ_ h=>(cC h).2.2) k.d⟩
def uM.more{p:V3->Int}{c:Con}{l:a7}{x:Rn}(hp:Prj p)(o:bG c=0)(f:∀v,aO v=O->0<=p v/\p v<=1048576)(k:∀free need (n:Int),aO need=O->1<=n->n<=dM free need->p need*n<=p free)(m:∀y∈l,ao y.g)(b:ao x.g)
  (d:∀u∈x.hs,((x.hs.count u:Nat):Int)<=dM (((iB c l)[u.toNat]?).getD V3.zero) x.g.need) (h:uM p c l):uM p c (l++[x]):=by
 intro j a;rw[PF];have q:=h j a;have e:BX p (j:Int) x=p x.g.need*((x.hs.count (j:Int):Nat):Int):=rfl;by_cases hm:(j:Int)∈x.hs
 .have i:0<x.hs.count (j:Int):=Lh.2 hm;have h1:=k _ _ _ b.v o_ (d _ hm);rw[Bm,aAU hp (λj a=>f _ (YN o a)) (λx b=>f _ (m x b).v) a,<-e]at h1
  grind[Ji]
 .rw [e,List.count_eq_zero.2 hm];simp;omega
def HstOK.more{c:Con}{l:a7}{x:Rn}(m:bG c=0)(j:∀y∈l,ao y.g)(k:ao x.g)(f:∀u∈x.hs,((x.hs.count u:Nat):Int)<=dM (((iB c l)[u.toNat]?).getD V3.zero) x.g.need)(h:HstOK c l):HstOK c (l++[x]):=
 ⟨h.a.more aKG m (λ_ e=>(cC e).1) (λ_ _ _ e h1 i=>(uT e h1 i).1) j k f,h.b.more aKF m (λ_ e=>(cC e).2.1) (λ_ _ _ e h1 i=>(uT e h1 i).2.1) j k f,h.d.more aKE m (λ_ e=>(cC e).2.2) (λ_ _ _ e h1 i=>(uT e h1 i).2.2) j k f⟩
def wT(c:Con)(l:a7):Prop:=∀i:Nat,i<Z c.ns->bY (atV (ofL c l) (i:Int)) (rZ c (i:Int))=O
def aKv{s:Sta}:QO s=O↔wT s.c s.run:=by
 unfold QO wT
 grind[Ck]
def ao.dem{g:Gan}(h:ao g):(dem g).pos:=aMH h.v ⟨by have:=h.pods;omega,h.pods.2⟩
def wT.filter{c:Con}{l:a7}(q:Rn->Bool)(a:∀x∈l,ao x.g)(h:wT c l):wT c (l.filter q):=λi b=>
 yB.2 ((aKO (λx d=>(a x d).dem) q (i:Int)).2.1.trans (yB.1 (h i b)))
def wT.more{c:Con}{l:a7}{x:Rn}(k:∀y∈l,ao y.g)(j:ao x.g)(hm:C0 c (ofL c l) x.g.ten (Go.Proofs.YtenkdioaefckoaaGreatDoor.dem x.g)=O)(hl:bB c.ns x.g.ten=O)(h:wT c l):wT c (l++[x]):=by
 intro i d;by_cases hp:(i:Int)∈bP c.ns x.g.ten
 .have h1:=(QN (λy f=>(k y f).dem) j.dem hm _ hp).2;have e:aAr c x.g.ten (i:Int)=rZ c (i:Int):=by
   unfold aAr rZ;by_cases b:(i:Int)=x.g.ten
   .rw [bu b,b,bu hl]
   .rw [bt b,bt];intro m;unfold bP at hp
    grind[aAw]
  rw[<-e];exact h1
 .have e:atV (ofL c (l++[x])) (i:Int)=atV (ofL c l) (i:Int):=by
   have a:c.ok (i:Int):=⟨by omega,by simpa using d⟩
   rw[B8 a,B8 a,List.foldl_append];show qR c _ _ x=_;unfold qR;rw[bt];intro n;exact hp (by unfold bP;rw[List.mem_reverse];simpa using n.2)
  rw[e];exact h i d
def JQ:∀{l ns:bc} {i:Nat},jH ns i l=O->∀k (h:k<Z l),lQ (rlB ns ((i+k:Nat):Int)) (i+k) l[k]=O
 |[],_,_,_,k,h=>bv h (Nat.not_lt_zero _)
 |x::l,ns,i,h0,k,h=>by
  unfold jH at h0;by_cases a:lQ (rlB ns i) i x=O
  .rw [bu a]at h0;cases k with
   |zero=>exact a
   |succ k=>
    have:=JQ h0 k (by simpa using h)
    grind
  .rw [bt a]at h0;cases h0
def CK{c:Con}(h:bG c=0):wZ c/\jH c.ns 0 c.ns=O/\c.hs.all jJ=true:=by
 unfold bG at h
 grind
def IQ{v:V3}(h:aO v=O):v.pos:=by obtain⟨a,b,d⟩:=cC h;exact⟨a.1,b.1,d.1⟩
theorem RL{c:Con}(h:bG c=0){i:Nat}(a:i<Z c.ns):(cH c.ns (i:Int)).n.pos/\(cH c.ns (i:Int)).b.pos:=by
 have h1:=JQ (CK h).2.1 i a;have e:cH c.ns (i:Int)=c.ns[i]:=by unfold cH;rw[Bm,List.getElem?_eq_getElem a];rfl
 rw[e];unfold lQ at h1;have f:∀v:V3,zB v=O->v.pos:=λv d=>by unfold zB at d;simp at d;exact⟨by omega,by omega,by omega⟩
 split at h1
 .cases h1
 .split at h1
  .simp only[Af]at h1;exact⟨IQ h1.1,IQ h1.2.1⟩
  grind
def aFT{c:Con}(h:bG c=0):wT c []:=by
 intro i g
 have f:c.ok (i:Int):=⟨by omega,by simpa using g⟩
 rw[B8 f];have hs:∀p:V3->Int,Prj p->(∀v:V3,v.pos->0<=p v)->0<=p (rZ c (i:Int)):=λp hp j=>by
  have m:0<=p (iY c.ns (i:Int) (mB c.ns))/\p (iY c.ns (i:Int) (mB c.ns))<=eB:=by
   unfold iY;have hz:=hp.zero;have a:∀e∈(bE c.ns (i:Int)).map λt=>p (atV (mB c.ns) t),0<=e:=λe l=>by
    obtain⟨t,k,rfl⟩:=Co.1 l;have d:=iW c (i:Int) t k;rw[aGq d];have b:t=(t.toNat:Int):=by have:=d.1;omega
    rw[b];exact j _ (RL h d.2).1
   rw[MH hp,hz,yP (Ei _) d_ a];have:=mP a;unfold eB;omega
  unfold rZ;split
  .rw [hp.add]
   grind[RL,uL]
  .exact m.1
 exact yB.2 ⟨hs _ aKG λ_ h=>h.1,hs _ aKF λ_ h=>h.2.1,hs _ aKE λ_ h=>h.2.2⟩
def aC6{c:Con}{free:a8}{g:Gan}(u:1<=g.pods)(hl:0<=g.pref/\g.pref<=g.lev/\g.lev<=3){x:Int×ax}(h:wO c free g=X x):(bC c.hs (x.2.headD 0)).f=x.1:=by
 have d:∀(i:List ax),fdG c free g i=X x->∃a∈i,x=((bC c.hs (a.headD 0)).f,inL free g a)/\¬ (Z (inL free g a):Int)<g.pods:=λi=>by
  induction i with
  |nil=>intro h;cases h
  |cons a r o=>
   intro h;unfold fdG at h
   grind
 have b:∀(n:Nat) (lv:Int),fdL c free g n lv=X x->∃e,lv<=e/\e<lv+n/\fdG c free g (gpL c e)=X x:=λn=>by
  induction n with
  |zero=>intro lv h;cases h
  |succ n o=>
   intro lv h;unfold fdL at h
   grind
 unfold wO at h;obtain⟨e,w,v,p⟩:=b _ _ h;obtain⟨a,m,rfl,l⟩:=d _ p;have j:(inL free g a).headD 0∈a:=by
  have hm:(inL free g a).headD 0∈inL free g a:=by
   cases q:inL free g a with
   |nil=>rw[q]at l;simp at l;omega
   |cons y t=>exact Aw ..
  rcases W0 a [] _ hm with h|h
  .cases h
  .exact h.1
 obtain⟨_,s⟩:=NU (c:=c) (lv:=e) o_ o_;have k:=(OQ o_ o_).1 ((s a m).2.2 _ j).2.2;unfold wD ofK at k;exact(Fm k).1.symm
abbrev Srt(l:ba):Prop:=l.Pairwise λa b=>a.seq<b.seq
structure RunP(c:Con)(now:Int)(l:a7):Prop where
 time:∀r∈l,r.at'<=r.st/\r.st<=now/\now<dG r/\(bC c.hs (r.hs.headD 0)).f=r.fl
 plc:∀r∈l,aNX c r
 hst:HstOK c l
 quo:wT c l
def aBE(c:Con)(nxt now:Int)(x:Pn):Prop:=dO c x.g=0/\(cE c [] x.g).isNone=S/\(0<=x.seq/\x.seq<nxt)/\0<=x.at'/\x.at'<=now
structure OkS(s:Sta):Prop where
 head:gL s.c=O\/bG s.c=0
 now:0<=s.now/\s.now<=1099511627776
 nxt:1<=s.nxt/\s.nxt<=1099511627776
 hist:Z s.hist=Z s.c.ns
 few:Z s.pend+Z s.run<=32
 row:Srt s.pend
 gang:∀x∈s.pend++s.run.map Rn.pn,aBE s.c s.nxt s.now x
 ids:((s.pend++s.run.map Rn.pn).map λx=>x.g.id).Nodup
 seqs:((s.pend++s.run.map Rn.pn).map λx=>x.seq).Nodup
 run:RunP s.c s.now s.run
def ZT{l:ba}:(l.map Pn.q).Pairwise (λa b=>a.seq<b.seq)↔Srt l:=by rw[Gj];exact Iff.rfl
def aJ6{l:ba}(h:(l.map λx=>x.g.id).Nodup):aE5 l=O↔Srt l:=by
 unfold aE5;rw[Q2.check_good];constructor
 .exact λg=>ZT.1 g.seq
 .refine λg=>⟨ZT.2 g,?_⟩
  rw[Gj];unfold Mm at h;rw[Gj]at h;exact h
def aAA(p:Q2.Pend):∀{l:List Q2.Pend},l.Pairwise (λa b=>a.seq<b.seq)->(∀x∈l,x.seq≠p.seq)->(Q2.insP p l).Pairwise (λa b=>a.seq<b.seq)/\∀x∈Q2.insP p l,x=p\/x∈l
 |[],_,_=>⟨List.pairwise_singleton _ _,λx c=>.inl (Dl.1 c)⟩
 |y::r,h,hn=>by
  rw[Bp]at h;unfold Q2.insP;by_cases e:p.seq<y.seq
  .rw [bu e]
   grind[Bp]
  .rw [bt e];obtain⟨h1,d⟩:=aAA p h.2 λx c=>hn x (Az _ c);have f:=hn y (Aw ..);refine⟨Bp.2 ⟨λz hz=>?_,h1⟩,λx c=>?_⟩
   .rcases d z hz with rfl|hz
    .omega
    .exact h.1 z hz
   .rcases Ba.1 c with rfl|c
    .exact .inr (Aw ..)
    .rcases d x c with rfl|c
     .exact .inl rfl
     .exact .inr (Az _ c)
def aAc{l:ba}{p:Pn}(h:Srt l)(a:∀x∈l,x.seq≠p.seq):Srt (iZ l p):=by refine ZT.1 ?_;rw[V7,Q2.putP_ins];refine(aAA p.q (ZT.2 h) λx c=>?_).1;obtain⟨y,b,rfl⟩:=Co.1 c;exact a y b
def PB{l:ba}{a:Int}(h:Srt l):Srt (dI l a):=by
 unfold dI
 grind[List.eraseIdx_sublist]
structure SizOK(c:Con):Prop where
 ns:Z c.ns<=12
 hs:Z c.hs<=24
 half:0<=c.half/\c.half<=1048576
 age:0<=c.age/\c.age<=1048576
def K5{c:Con}:gL c=O↔c=⟨[],[],0,0⟩:=by obtain⟨a,b,d,e⟩:=c;unfold gL;simp
def zK{c:Con}(h:gL c=O\/bG c=0):SizOK c:=by
 rcases h with h|h
 .rw [K5]at h;subst h;exact⟨by simp,by simp,by decide,by decide⟩
 .have h1:=(CK h).1;unfold wZ at h1;exact⟨by omega,by omega,by omega,by omega⟩
def XN{c:Con}(h:gL c=O)(g:Gan):dO c g≠0:=by rw[K5]at h;subst h;intro e;have h1:=(qD.1 e).2;unfold bB at h1;simp at h1;omega
def FX{c:Con}(h:gL c=O\/bG c=0){g:Gan}(a:dO c g=0):bG c=0:=h.resolve_left λe=>XN e g a
def aPF(s:Sta):ids s=(s.pend++s.run.map Rn.pn).map λx=>x.g.id:=by unfold ids;rw[Bh,Dx];rfl
def aJO(s:Sta):seqs s=(s.pend++s.run.map Rn.pn).map λx=>x.seq:=by unfold seqs;rw[Bh,Dx];rfl
def aF1{s:Sta}{p:Pn}:pnB s p=O↔aBE s.c s.nxt s.now p:=by
 unfold pnB aBE
 grind
def OH{s:Sta}(h:OkS s):nZ s=true:=by have a:=h.ids;rw[Bh,Du]at a;unfold nZ SG;simp only[Af,Bool.or_eq_true,bo,Ck];refine⟨⟨h.head,h.now,h.nxt,h.hist,h.few⟩,(aJ6 a.1).2 h.row,⟨λp hp=>aF1.2 (h.gang p (Dh _ hp)),λr b=>?_⟩,by rw[aPF];exact h.ids,by rw[aJO];exact h.seqs,aKv.2 h.run.quo⟩;have d:=h.gang r.pn (Cx _ (Cn b));refine⟨aF1.2 d,?_⟩;obtain⟨e,g,j,i⟩:=h.run.time r b;unfold rnB;simp only[Af,bo];have c:=a.2.1;rw[Dx]at c;exact⟨⟨⟨e,g⟩,j⟩,aQx (FX h.head d.1) (λx f=>iU (h.gang x.pn (Cx _ (Cn f))).1) c h.run.hst b (h.run.plc r b),i⟩
def OkS.base{s:Sta}(h:OkS s):Base s where
 c:=⟨by have:=(zK h.head).ns;omega,by have:=(zK h.head).hs;omega⟩
 ids:=h.ids
 seqs:=h.seqs
 few:=by rw[Ah,Cb];have:=h.few;omega
 gang x hx:=by have hn:=iU (h.gang x hx).1;have:=hn.pods;have:=hn.id;exact⟨by omega,hn.v,by omega⟩
def aEb(s:Sta){l:ba}(h:(l.map λx=>x.seq).Nodup):Tot (ltP s) l:=by unfold Tot;unfold Mm at h;rw[Gj]at h;exact h.imp λh=>aLf s h
def OkS.st{s:Sta}(h:OkS s)(hl:LtF s.hist):StOK s:=by
 have hz:=zK h.head;have h1:=hz.ns;have f:=hz.hs;have h3:=hz.half;have k:=hz.age;have j:=h.hist;have l:=h.few;have i:=h.nxt
 have b:Sm s.run:=⟨by omega,λx d=>by
  have:=(h.run.plc x d).1;have:=(iU (h.gang x.pn (Cx _ (Cn d))).1).pods;have e:x.pn.g=x.g:=rfl;rw[e]at this
  omega⟩
 have a:=h.seqs;rw[Bh,Du]at a;exact⟨h.base.c,⟨h.base,⟨by omega,by omega,by omega,b,by omega⟩,⟨h.base.c,h1,hl,by omega,h.now,by omega⟩,λp hp=>(h.gang p (Dh _ hp)).2.2.2.1,aEb s a.1⟩,by omega,by omega⟩
def RunP.filter{c:Con}{now:Int}{l:a7}(q:Rn->Bool)(b:∀x∈l,ao x.g)(h:RunP c now l):RunP c now (l.filter q):=
 ⟨λr a=>h.time r (Fh.1 a).1,λr a=>h.plc r (Fh.1 a).1,h.hst.filter q b,h.quo.filter q b⟩
def OkS.needs{s:Sta}(h:OkS s):∀x∈s.run,ao x.g:=λx a=>iU (h.gang x.pn (Cx _ (Cn a))).1
def OkS.part{s:Sta}(h:OkS s){pend:ba}{run:a7}{rest:ba}(hp:((pend++run.map Rn.pn)++rest).Perm (s.pend++s.run.map Rn.pn))(hs:Srt pend)(hr:RunP s.c s.now run):OkS {s with pend:=pend,run:=run} where
 head:=h.head
 now:=h.now
 nxt:=h.nxt
 hist:=h.hist
 few:=by
  have h1:=hp.length_eq;have h2:=h.few
  grind[Ah,Cb]
 row:=hs
 gang x hx:=h.gang x (hp.mem_iff.1 (Dh _ hx))
 ids:=by have h1:=((hp.map λx=>x.g.id).nodup_iff).2 h.ids;rw[Bh,Du]at h1;exact h1.1
 seqs:=by have h1:=((hp.map λx=>x.seq).nodup_iff).2 h.seqs;rw[Bh,Du]at h1;exact h1.1
 run:=hr
theorem GP{α:Type}(q:α->Bool):∀(l:List α),(l.filter q++l.filter λx=>!q x).Perm l
 |[]=>Fc _
 |x::l=>by
  have b:=GP q l;by_cases a:q x=O
  .rw [Ft a,Fs (by rw[a];decide)];exact b.cons x
  .rw [Fs a,Ft (by simpa using a)];exact Fu.trans (b.cons x)
def OkS.wo{s:Sta}(h:OkS s)(q:Rn->Bool):OkS {s with run:=s.run.filter q}:=by
 refine h.part (pend:=s.pend) (run:=s.run.filter q) (rest:=(s.run.filter λx=>!q x).map Rn.pn) ?_ h.row (h.run.filter q h.needs)
 grind[Ag,Dm,GP]
def OkS.take{s:Sta}(h:OkS s)(a:Int):OkS {s with pend:=dI s.pend a}:=by
 have b:=h.run;rcases DY a s.pend with⟨_,e⟩|⟨A,p,B,d,f,c⟩
 .have:dI s.pend a=s.pend:=by unfold dI;rw[bu o_]
  rw[this];exact h
 .have e:dI s.pend a=A++B:=by
   unfold dI;rw[bt o_,c,d];show(A++p::B).eraseIdx (Z A)=_
   grind
  refine h.part (pend:=dI s.pend a) (run:=s.run) (rest:=[p]) ?_ (PB h.row) b
  grind[Ag]
structure RK(s:Sta)(r:Rd):Prop where
 row:Srt r.s.pend
 run:RunP s.c s.now r.s.run
def aj.gangA{s:Sta}{r:Rd}{rest:ba}(o:OkS s)(h:aj s r rest):∀x∈r.s.pend++r.s.run.map Rn.pn,aBE s.c s.nxt s.now x:=λx a=>o.gang x (h.perm.mem_iff.1 a)
def aj.needs{s:Sta}{r:Rd}{rest:ba}(o:OkS s)(h:aj s r rest):∀x∈r.s.run,ao x.g:=λx a=>iU (h.gangA o x.pn (Cx _ (Cn a))).1
def RK.adm{s:Sta}{r:Rd}{p:Pn}{rest:ba}(o:OkS s)(h:aj s r (p::rest))(k:RK s r){x:Int×ax}(e:cE r.s.c r.s.run p.g=X x):RK s (xQ r p x.1 x.2):=by
 have hp:=h.gangA o p (Dh _ (h.sub p (Aw ..)));have b:=iU hp.1;have t:=FX o.head hp.1;rw[h.c]at e;unfold cE at e;split at e
 .rename_i hm;obtain⟨m,n⟩:=aHu b.v b.pods.1 b.lev e;have i:=aC6 b.pods.1 b.lev e;obtain⟨j,l,w⟩:=TX.1 n;have d:=h.needs o;refine⟨PB k.row,⟨λy a=>?_,λy a=>?_,?_,?_⟩⟩
  .rcases Bx.1 a with a|a
   .exact k.run.time y a
   .rw [Dl.1 a];have:=hp.2.2.2;have:=b.run;have:=o.now;refine⟨by show p.at'<=r.s.now;rw[h.now];omega,by show r.s.now<=s.now;rw[h.now];omega,?_,i⟩;have q:=h.now;unfold dG
    grind
  .rcases Bx.1 a with a|a
   .exact k.run.plc y a
   .rw [Dl.1 a];exact⟨j,l,λu f=>by grind[zN]⟩
  .exact k.run.hst.more t d b λu f=>(m u f).2.2
  .exact k.run.quo.more d b hm (qD.1 hp.1).2
 .cases e
def SX(run:a7):∀(ids:ax) (r:Rd),Srt r.s.pend->((ids.map (λid=>(xOf run id).pn)++r.s.pend).map λx=>x.seq).Nodup->Srt (ids.foldl (dL run) r).s.pend
 |[],_,h,_=>h
 |id::ids,r,h,hn=>by
  rw[Ao];have hp:=AU r.s.pend (xOf run id).pn;rw[Bg,List.cons_append,Bg,Ce]at hn;refine SX run ids (dL run r id) (aAc h λx a e=>hn.1 ?_) ?_
  .have e:x.seq=(xOf run id).pn.seq:=e;rw[<-e];exact Cn (Cx _ a)
  .have h1:(ids.map (λid=>(xOf run id).pn)++(dL run r id).s.pend).Perm ((xOf run id).pn::(ids.map (λid=>(xOf run id).pn)++r.s.pend)):=(Dm _ hp).trans Fu;refine((h1.map λx=>x.seq).nodup_iff).2 ?_;rw[Bg,Ce];exact hn
def RK.evic{s:Sta}{r:Rd}{rest:ba}(o:OkS s)(h:aj s r rest)(k:RK s r){ids:ax}(b:ids.Nodup)(a:∀id∈ids,0<=aL (bA id) r.s.run 0):RK s (gE r ids):=by
 refine⟨SX r.s.run ids r k.row ?_,k.run.filter _ (h.needs o)⟩;have h1:=(Q6 (h.once o.base) b a).map Rn.pn;rw[Bh,Dx]at h1;have c:((ids.map (λid=>(xOf r.s.run id).pn)++r.s.pend)++(aB r.s.run ids).map Rn.pn).Perm (s.pend++s.run.map Rn.pn):=by refine Mo ?_ h.perm;refine(Dt _ Dv).trans ?_;rw[Ag];exact Dm _ h1
 have h3:=((c.map λx=>x.seq).nodup_iff).2 o.seqs;rw[Bh,Du]at h3;exact h3.1
def RK.admR{s:Sta}{r:Rd}{p:Pn}{rest:ba}(o:OkS s)(h:aj s r (p::rest))(k:RK s r):RK s (Go.Proofs.YtenkdioaefckoaaGreatDoor.admR r p).1:=by
 unfold Go.Proofs.YtenkdioaefckoaaGreatDoor.admR;cases a:cE r.s.c r.s.run p.g with
 |none=>exact k
 |some x=>
  obtain⟨fl,hs⟩:=x;unfold AH;dsimp only;split
  .exact k
  .exact k.adm o h a
def RK.look{s:Sta}{r:Rd}{p:Pn}{rest:ba}(o:OkS s)(h:aj s r (p::rest))(k:RK s r):RK s (bH r p):=by
 unfold bH;split
 .exact k.admR o h
 .rename_i i;split
  .exact k
  .rename_i l;have b:r.head=false:=by grind
   have a:cE r.s.c r.s.run p.g=none:=by
    cases f:cE r.s.c r.s.run p.g with
    |none=>rfl
    |some x=>
     obtain⟨fl,hs⟩:=x;refine bv ?_ i;unfold Go.Proofs.YtenkdioaefckoaaGreatDoor.admR;rw[f];unfold AH;dsimp only;rw[b];rfl
   cases j:eS r.s.c r.s.run p.g with
   |none=>
    show RK s (pO r p _);cases mQ r.s.c r.s.now r.s.run p.g with
    |none=>exact k
    |some n=>exact⟨k.row,k.run⟩
   |some ids=>
    obtain⟨_,e,_,d,_⟩:=vW o.base h a j;exact(k.evic o h e d).admR o (h.evic o.base e d)
def JA{s:Sta}(o:OkS s):∀(L:ba) (r:Rd),C9 s r L->RK s r->RK s (L.foldl bH r)
 |[],_,_,k=>k
 |p::L,r,h,k=>JA o L (bH r p) (AP o.base r p L h) (k.look o h.1)
def OkS.round{s:Sta}(o:OkS s)(hl:LtF s.hist):OkS (lX s).s:=by
 have hst:=(o.st hl).run.start;have h1:=(yQ o.base (rA s) _ hst).1;have f:=JA o (rA s) _ hst ⟨o.row,o.run⟩;have e:(lX s).s={s with pend:=(lX s).s.pend,run:=(lX s).s.run}:=by have a:=h1.c;have b:=h1.now;have c:=h1.nxt;have d:=h1.hist;change (lX s).s.c=s.c at a;change (lX s).s.now=s.now at b;change (lX s).s.nxt=s.nxt at c;change (lX s).s.hist=s.hist at d;rw[<-a,<-b,<-c,<-d]
 rw[e];refine o.part (rest:=[]) ?_ f.row f.run;rw[Ap];exact h1.perm
def VF{s:Sta}(o:OkS s)(hl:LtF s.hist):(lX s).s.hist=s.hist/\(lX s).s.nxt=s.nxt/\(lX s).s.c=s.c/\(lX s).s.now=s.now:=by have h1:=(yQ o.base (rA s) _ (o.st hl).run.start).1;exact⟨h1.hist,h1.nxt,h1.c,h1.now⟩
def aOh(h b:a6)(n half:Int):LtF (tkL h b n half):=by
 unfold tkL;have key:∀(l:a6) (i:Nat),LtF (dC (tkS b n half) l i):=λl=>by
  induction l with
  |nil=>intro i x a;cases a
  |cons y l c=>
   intro i x a;rcases Ba.1 a with rfl|a
   .unfold tkS
    grind[D5,yY]
   .exact c (i+1) x a
 exact key h 0
def OkS.tick{s:Sta}(o:OkS s)(n:Int):OkS (iH s n).1/\(iH s n).1.nxt=s.nxt:=by
 unfold iH;split
 .exact ⟨o,rfl⟩
 .split
  .exact ⟨o,rfl⟩
  .have c:=o.wo λx=>decide (s.now+n<dG x);have h:=o.now;refine⟨⟨c.head,⟨by show 0<=s.now+n;omega,by show s.now+n<=_;omega⟩,c.nxt,?_,c.few,c.row,λx i=>?_,c.ids,c.seqs,⟨λr g=>?_,c.run.plc,c.run.hst,c.run.quo⟩⟩,rfl⟩
   .show (Z (tkL _ _ _ _))=_;unfold tkL;rw[kG];exact o.hist
   .obtain ⟨a,b,d,e,f⟩:=c.gang x i;exact⟨a,b,d,e,by grind⟩
   .obtain ⟨a,b,d,e⟩:=c.run.time r g;have j:=(Fh.1 g).2
    grind
def OkS.conf{s:Sta}(o:OkS s){c:Con}(d:bG c=0)(h:¬ 0<Z s.pend+Z s.run):OkS {s with c:=c,hist:=Ak (Z c.ns) 0}:=by have hp:s.pend=[]:=Ch.1 o_;have b:s.run=[]:=Ch.1 o_;obtain⟨g,now,nxt,pend,run,hist⟩:=s;dsimp only at hp b;subst hp b;refine⟨.inr d,o.now,o.nxt,by simp,by simp,Lo,λx e=>(by cases e),Hu,Hu,⟨λr b=>(by cases b),λr b=>(by cases b),?_,aFT d⟩⟩;have key:∀p:V3->Int,(∀v,aO v=O->0<=p v)->uM p c []:=λp a j f=>a _ (YN d f);exact⟨key _ λ_ a=>(cC a).1.1,key _ λ_ a=>(cC a).2.1.1,key _ λ_ a=>(cC a).2.2.1⟩
def aC8{a:Int}{l:ba}(h:fN a l<0):∀p∈l,p.g.id≠a:=by grind[DY]
def OkS.submit{s:Sta}(o:OkS s)(l:s.nxt<1099511627776)(g:Gan):OkS (dJ s g).1/\(dJ s g).1.nxt<=s.nxt+1/\s.nxt<=(dJ s g).1.nxt:=by
 unfold dJ;iterate 4 (split;· grind)
 rename_i h1 m h3 n;have h1:dO s.c g=0:=Ds.1 h1;refine⟨?_,Ei _,by show s.nxt<=s.nxt+1;omega⟩;have hp:=AU s.pend ⟨g,s.nxt,s.now⟩;have h:(iZ s.pend ⟨g,s.nxt,s.now⟩++s.run.map Rn.pn).Perm (⟨g,s.nxt,s.now⟩::(s.pend++s.run.map Rn.pn)):=Dt _ hp;have i:=o.now;have k:=o.nxt;refine⟨o.head,o.now,⟨by show 1<=s.nxt+1;omega,by show s.nxt+1<=_;omega⟩,o.hist,?_,aAc o.row λx f e=>?_,λx f=>?_,?_,?_,o.run⟩
 .have:=hp.length_eq
  grind[Al]
 .have:=(o.gang x (Dh _ f)).2.2.1;have e:x.seq=s.nxt:=e;omega
 .rcases Ba.1 (h.mem_iff.1 f)with rfl|f
  .refine ⟨h1,by grind,⟨by show 0<=s.nxt;omega,by show s.nxt<s.nxt+1;omega⟩,i.1,Ei _⟩
  .obtain ⟨a,b,d,e⟩:=o.gang x f;exact⟨a,b,⟨d.1,by show x.seq<s.nxt+1;omega⟩,e⟩
 .refine ((h.map λx=>x.g.id).nodup_iff).2 (Ce.2 ⟨λhm=>?_,o.ids⟩);obtain⟨x,f,e⟩:=Co.1 hm;have e:x.g.id=g.id:=e;rcases Bx.1 f with f|f
  .exact aC8 o_ x f e
  .obtain ⟨r,j,rfl⟩:=Co.1 f;have:=GM s.run 0 r j e;omega
 .refine ((h.map λx=>x.seq).nodup_iff).2 (Ce.2 ⟨λhm=>?_,o.seqs⟩);obtain⟨x,f,e⟩:=Co.1 hm;have:=(o.gang x f).2.2.1;have e:x.seq=s.nxt:=e;omega
structure OkT(s:Sta):Prop where
 ok:OkS s
 lt:LtF s.hist
def OkT.apply{s:Sta}(o:OkT s)(b:s.nxt<1099511627776)(x:Cmd):OkT (aG s x).1/\(aG s x).1.nxt<=s.nxt+1/\s.nxt<=(aG s x).1.nxt:=by
 have same:OkT s/\s.nxt<=s.nxt+1/\s.nxt<=s.nxt:=⟨o,by omega,Ei _⟩
 unfold aG;split
 .exact same
 split
 .split
  .exact same
  .rename_i d;split
   .exact same
   .rename_i e;refine⟨⟨o.ok.conf (Ds.1 d) e,λy c=>?_⟩,same.2⟩;have:=List.eq_of_mem_replicate c;omega
 split
 .obtain ⟨h1,a⟩:=o.ok.submit b x.g;refine⟨⟨h1,?_⟩,a⟩;have:(dJ s x.g).1.hist=s.hist:=by
   unfold dJ;iterate 4 (split;· rfl)
   rfl
  rw[this];exact o.lt
 split
 .obtain ⟨h1,a⟩:=o.ok.tick x.n;refine⟨⟨h1,?_⟩,by rw[a];exact same.2⟩;unfold iH;split
  .exact o.lt
  .split
   .exact o.lt
   .exact aOh _ _ _ _
 split
 .obtain ⟨h1,a,_⟩:=VF o.ok o.lt;refine⟨⟨o.ok.round o.lt,?_⟩,?_⟩
  .show LtF (lX s).s.hist;rw[h1];exact o.lt
  grind
 split
 .exact ⟨⟨o.ok.wo _,o.lt⟩,same.2⟩
 split
 .exact same
 .exact ⟨⟨o.ok.take _,o.lt⟩,same.2⟩
def ZS:OkT pI:=by
 refine⟨⟨.inl d_,by decide,by decide,rfl,by decide,Lo,λx b=>(by cases b),Hu,Hu,⟨λr a=>(by cases a),λr a=>(by cases a),⟨?_,?_,?_⟩,?_⟩⟩,λx b=>(by cases b)⟩
 all_goals exact λj c=>bv c (Nat.not_lt_zero _)
def two(a:Int)(b:Int)(x:Rn):Bool:=!((x.g.id==a)||(x.seq==b))
structure FairP(s:Sta):Prop where
 few:aTh s.c s.now s.run=1
 pend:Z s.pend<=32
 row:aE5 s.pend=O
 hist:Z s.hist=Z s.c.ns
 gang:∀p∈s.pend,aNC s.c.ns p.g≠0/\0<=p.at'/\p.at'<=s.now
 two:∀p∈s.pend,∀x∈s.run,x.g.id≠p.g.id/\x.seq≠p.seq
 once:s.run.Pairwise λa b=>a.g.id≠b.g.id/\a.seq≠b.seq
structure FairS(s:Sta):Prop where
 siz:SizOK s.c
 chk:gL s.c=O\/bG s.c=0
 now:0<=s.now/\s.now<=1099511627776
 nxt:1<=s.nxt/\s.nxt<=1099511627776
 few:Z s.pend+Z s.run<=32
 hist:Z s.hist=Z s.c.ns
 row:Srt s.pend
 ids:((s.pend++s.run.map Rn.pn).map λx=>x.g.id).Nodup
 seqs:((s.pend++s.run.map Rn.pn).map λx=>x.seq).Nodup
 need:∀x∈s.pend++s.run.map Rn.pn,ao x.g
 at':∀p∈s.pend,0<=p.at'/\p.at'<=s.now
 hs:∀x∈s.run,Z x.hs<=16
def Ev.eqb(x y:Ev):Bool:=(x.k==y.k)&&((x.id==y.id)&&((x.n==y.n)&&O))
def Pn.eqb(x y:Pn):Bool:=(x.g.id==y.g.id)&&((x.g.ten==y.g.ten)&&((x.g.pods==y.g.pods)&&((x.g.need.a==y.g.need.a)&&((x.g.need.b==y.g.need.b)&&((x.g.need.c==y.g.need.c)&&((x.g.run==y.g.run)&&((x.g.lev==y.g.lev)&&((x.g.pref==y.g.pref)&&((x.seq==y.seq)&&((x.at'==y.at')&&O))))))))))
def vS{α:Type}[DecidableEq α]{f:α->α->Bool}(c:∀x y,f x y=O↔x=y):∀(a b:List α),C8.eqL f a b=decide (a=b)
 |[],[]=>rfl
 |[],_::_=>rfl
 |_::_,[]=>rfl
 |x::r,y::s=>by
  show(f x y&&C8.eqL f r s)=_;rw[vS c r s];cases h:f x y with
  |true=>
   have:=(c x y).1 h;subst this;simp
  |false=>
   have:x≠y:=λe=>by rw[(c x y).2 e]at h;cases h
   simp[this]
def aGm(x y:Rn)(l:Z x.hs=Z y.hs)(n:Z x.hs<=1048576)(r:Bool):∀(m i:Nat),i+m=Z x.hs->decide (x.hs.drop i=y.hs.drop i)=r->
  BC E f87 (DA r) [(2,G2 0 0),(3,G2 1 0),(5,GE Is i)] [Do 85 x.cs,Do 85 y.cs]:=by
 have f:Z (iv x.hs)=Z x.hs:=by simp
 intro m;induction m with
 |zero=>
  intro i g a;rw[Ae o_,Ae o_]at a;have a:O=r:=a;subst a;exact tA
 |succ m d=>
  intro i g a;have c:i<Z x.hs:=o_;have b:i<Z y.hs:=o_;rw[Ac c,Ac b]at a;have h:=cD c;have j:=cD b;generalize x.hs[i]=u at h a;generalize y.hs[i]=v at j a;have next:=d (i+1) o_
  by_cases h1:u=v
  .have k:(u !=v)=false:=by simpa using h1
   have next:=next (by rw[<-a,h1];exact decide_eq_decide.2 ⟨λe=>by rw[e],λe=>(Fm e).2⟩)
   clear d a;exact tA
  .have k:(u !=v)=true:=by simpa using h1
   have a:S=r:=by rw[<-a,bp λe=>h1 (Fm e).1]
   subst a;clear d next
   exact tA
def aPl(x y:Rn)(t:Z x.hs<=1048576):bj 87 [x.av,y.av] (DA (decide (x=y))):=by
 have q:Z (iv x.hs)=Z x.hs:=by simp
 have p:Z (iv y.hs)=Z y.hs:=by simp
 have a:(S !=S)=false:=rfl;by_cases h1:x.g=y.g
 .have u:(!(Gan.eqb x.g y.g))=false:=by rw[Gan.eqb_eq.2 h1];rfl
  by_cases i:x.seq=y.seq
  .have o:(x.seq !=y.seq)=false:=by simpa using i
   by_cases h3:x.at'=y.at'
   .have m:(x.at' !=y.at')=false:=by simpa using h3
    by_cases k:x.st=y.st
    .have l:(x.st !=y.st)=false:=by simpa using k
     by_cases d:x.fl=y.fl
     .have j:(x.fl !=y.fl)=false:=by simpa using d
      by_cases n:Z x.hs=Z y.hs
      .have b:((Z (iv x.hs):Int) !=(Z (iv y.hs):Int))=false:=by rw[q,p,n];simp
       have c:=b;have s:decide (x.hs.drop 0=y.hs.drop 0)=decide (x=y):=by rw[Bz,Bz];obtain⟨z,J,G,H,B,C⟩:=x;obtain⟨v,K,I,D,F,w⟩:=y;dsimp only at h1 i h3 k d;subst h1 i h3 k d;simp
       have next:=aGm x y n t _ (Z x.hs) 0 o_ s
       generalize decide (x=y)=r at*
       exact zqya6
      .have c:((Z (iv x.hs):Int) !=(Z (iv y.hs):Int))=true:=by rw[q,p];simp;omega
       have b:=a;rw[bp λe=>n (by rw[e])];exact zqya6
     .have c:(x.fl !=y.fl)=true:=by simpa using d
      have j:=a;have b:=a;rw[bp λe=>d (by rw[e])];exact zqya6
    .have c:(x.st !=y.st)=true:=by simpa using k
     have l:=a;have j:=a;have b:=a;rw[bp λe=>k (by rw[e])];exact zqya6
   .have c:(x.at' !=y.at')=true:=by simpa using h3
    have m:=a;have l:=a;have j:=a;have b:=a;rw[bp λe=>h3 (by rw[e])];exact zqya6
  .have c:(x.seq !=y.seq)=true:=by simpa using i
   have o:=a;have m:=a;have l:=a;have j:=a;have b:=a;rw[bp λe=>i (by rw[e])];exact zqya6
 .have c:(!(Gan.eqb x.g y.g))=true:=by
   cases h:Gan.eqb x.g y.g with
   |false=>rfl
   |true=>exact bv (Gan.eqb_eq.1 h) h1
  have u:=a;have o:=a;have m:=a;have l:=a;have j:=a;have b:=a;rw[bp λe=>h1 (by rw[e])];exact zqya6
def aEM(a b:a7)(k:Z a=Z b)(hs:Sm a)(r:Bool):∀(m i:Nat),i+m=Z a->decide (a.drop i=b.drop i)=r->
  BC E f52 (DA r) [(0,CA 14 (rav a) J0),(1,CA 14 (rav b) J0),(5,GE Is i)] []:=by
 have j:Z (rav a)=Z a:=by simp
 have hl:=hs.1;intro m;induction m with
 |zero=>
  intro i l c;exact zqya25
 |succ m h=>
  intro i l c;have f:i<Z a:=o_;have d:i<Z b:=o_;rw[Ac f,Ac d]at c;have n:=cB f;have o:=cB d;have g:=aPl a[i] b[i] (hs.at f);generalize a[i]=u at n c g;generalize b[i]=v at o c g;have next:=h (i+1) o_
  by_cases h1:u=v
  .rw [bq h1]at g;have next:=next (by rw[<-c,h1];exact decide_eq_decide.2 ⟨λe=>by rw[e],λe=>(Fm e).2⟩)
   clear h c;exact tA
  .rw [bp h1]at g;have c:S=r:=by rw[<-c,bp λe=>h1 (Fm e).1]
   subst c;clear h next
   exact tA
def aOE(a b:a7)(hs:Sm a):bj 52 [CA 14 (rav a) J0,CA 14 (rav b) J0] (DA (decide (a=b))):=by
 have d:Z (rav a)=Z a:=by simp
 have c:Z (rav b)=Z b:=by simp
 by_cases h1:Z a=Z b
 .have h:((Z (rav a):Int) !=(Z (rav b):Int))=false:=by rw[d,c,h1];simp
  have next:=aEM a b h1 hs _ (Z a) 0 o_ (show _=decide (a=b) by rw[Bz,Bz])
  generalize decide (a=b)=r at*
  exact c_ f52 λ_=>zW
 .have h:((Z (rav a):Int) !=(Z (rav b):Int))=true:=by rw[d,c];simp;omega
  rw[bp λe=>h1 (by rw[e])];exact c_ f52 λ_=>zW
def aGR(a b:a6)(j:Z a=Z b)(hl:Z a<=1048576)(r:Bool):∀(m i:Nat),i+m=Z a->decide (a.drop i=b.drop i)=r->
  BC E f53 (DA r) [(0,CA 1 (fv a) J0),(1,CA 1 (fv b) J0),(5,GE Is i)] []:=by
 have h:Z (fv a)=Z a:=by simp
 intro m;induction m with
 |zero=>
  intro i k c;exact zqya25
 |succ m g=>
  intro i k c;have f:i<Z a:=o_;have d:i<Z b:=o_;rw[Ac f,Ac d]at c;have l:(fv a)[i]? =X (uu a[i]):=by simp[f]
  have n:(fv b)[i]? =X (uu b[i]):=by simp[d]
  generalize a[i]=u at l c;generalize b[i]=v at n c;have next:=g (i+1) o_
  by_cases h1:u=v
  .have o:((u:Int) !=(v:Int))=false:=by simp[h1]
   have next:=next (by rw[<-c,h1];exact decide_eq_decide.2 ⟨λe=>by rw[e],λe=>(Fm e).2⟩)
   clear g c;exact tA
  .have o:((u:Int) !=(v:Int))=true:=by simp;omega
   have c:S=r:=by rw[<-c,bp λe=>h1 (Fm e).1]
   subst c;clear g next
   exact tA
def aPw(a b:a6)(hl:Z a<=1048576):bj 53 [CA 1 (fv a) J0,CA 1 (fv b) J0] (DA (decide (a=b))):=by
 have d:Z (fv a)=Z a:=by simp
 have c:Z (fv b)=Z b:=by simp
 by_cases h1:Z a=Z b
 .have h:((Z (fv a):Int) !=(Z (fv b):Int))=false:=by rw[d,c,h1];simp
  have next:=aGR a b h1 hl _ (Z a) 0 o_ (show _=decide (a=b) by rw[Bz,Bz])
  generalize decide (a=b)=r at*
  exact c_ f53 λ_=>zW
 .have h:((Z (fv a):Int) !=(Z (fv b):Int))=true:=by rw[d,c];simp;omega
  rw[bp λe=>h1 (by rw[e])];exact c_ f53 λ_=>zW
def Z0(a b:Sta):Bool:=(a.now==b.now)&&((a.nxt==b.nxt)&&(C8.sameC a.c b.c&&(decide (a.pend=b.pend)&&(decide (a.run=b.run)&&decide (a.hist=b.hist)))))
def aNx:∀{a b:ba},a.map Pn.q=b.map Pn.q->a=b
 |[],[],_=>rfl
 |[],_::_,h=>by cases h
 |_::_,[],h=>by cases h
 |x::a,y::b,h=>by obtain⟨h1,c⟩:=Fm h;rw[aNx c];obtain⟨⟨_,_,_,⟨_,_,_⟩,_,_,_⟩,_,_⟩:=x;obtain⟨⟨_,_,_,⟨_,_,_⟩,_,_,_⟩,_,_⟩:=y;simp only[Pn.q,Q2.Pend.mk.injEq]at h1;obtain⟨rfl,rfl,rfl,rfl,rfl,rfl,rfl,rfl,rfl,rfl,rfl⟩:=h1;rfl
def I8(a b:Sta)(hs:Sm a.run)(l:Z a.hist<=1048576)(r:Bool)(d:Z0 a b=r):bj 15 [a.av,b.av] (DA r):=by
 have h1:=C8.rsame_c a.c b.c;have n:=Q2.same_ok (a.pend.map Pn.q) (b.pend.map Pn.q);rw[show decide (a.pend.map Pn.q=b.pend.map Pn.q)=decide (a.pend=b.pend)from decide_eq_decide.2 ⟨aNx,λe=>by rw[e]⟩,pS,pS]at n;have h3:=aOE a.run b.run hs;have o:=aPw a.hist b.hist l;unfold Z0 at d;generalize C8.sameC a.c b.c=q1 at*
 generalize decide (a.pend=b.pend)=q2 at*
 generalize decide (a.run=b.run)=q3 at*
 generalize decide (a.hist=b.hist)=q4 at*
 have m:(O&&S)=false:=rfl;have j:(O&&O)=true:=rfl;cases i:(a.now==b.now)with
 |false=>
  rw[i]at d;have d:S=r:=d;subst d;have k:=i;have i:=j;have h:=j;exact zqya9
 |true=>
  rw[i]at d;cases h:(a.nxt==b.nxt)with
  |false=>
   rw[h]at d;have d:S=r:=d;subst d;have k:=h;have h:=j;exact zqya9
  |true=>
   rw[h]at d;have k:=m;cases q1 with
   |false=>
    exact zqya22
   |true=>
    cases q2 with
    |false=>
     exact zqya22
    |true=>
     cases q3 with
     |false=>
      exact zqya22
     |true=>
      have d:q4=r:=d;subst d;exact zqya9
def I7{c d:Con}:C8.sameC c d=O↔c=d:=by obtain⟨e,g,h,i⟩:=c;obtain⟨a,k,b,j⟩:=d;unfold C8.sameC;rw[vS (f:=Nod.eqb) (λ_ _=>Nod.eqb_eq),vS (f:=Hos.eqb) (λ_ _=>Hos.eqb_eq)];simp
def EY(a:Sta):Z0 a a=true:=by unfold Z0;rw[I7.2 rfl];simp
def mN(n:Int):Cmd:=⟨5,aDx,Gan.zero,n⟩
open Go.ChangeShapes Go.WideShapes Go.ChangeAt Go.RowKit
set_option maxRecDepth 100000
def aIE{H:Type}(d:DataW H):1<=Rows.uptoBulk d:=by
 cases d with
 |lit l=>cases l<;>simp[Rows.uptoBulk]
 |_=>simp[Rows.uptoBulk]
def BP{H:Type}{d:DataW H}:∀{l:List (DataW H)},d∈l->Rows.uptoBulk d<=Rows.uptoBulkAll l
 |[],h=>by cases h
 |x::r,h=>by
  simp only[Rows.uptoBulkAll];rcases Ba.1 h with rfl|h
  .omega
  .have:=BP h;omega
def T7{H:Type}:∀(l:List (DataW H)),Z l<=Rows.uptoBulkAll l
 |[]=>by simp
 |x::r=>by have:=aIE x;have:=T7 r;simp only[Rows.uptoBulkAll,Al];omega
def aSD(H:Type)(N:Nat):Bulk H N (λd=>Rows.uptoBulk d<=N) where
 str l h:=by simp only[Rows.uptoBulk]at h;omega
 sl e r h:=by simp only[Rows.uptoBulk]at h;have:=T7 e;exact⟨by omega,λd hd=>by have:=BP hd;omega⟩
 agg l h:=by simp only[Rows.uptoBulk]at h;exact λd hd=>by have:=BP hd;omega
section
variable {N:Nat}
def aOd{n:Nat}{cs:az}(h:TyN Tryz.prog N (n+1) 3 cs):∃m:Int,cs=[ii m]/\ -9223372036854775808<=m/\m<=9223372036854775807:=by unfold TyN at h;rw[underlying3]at h;obtain⟨m,h,h1,a⟩:=h;simp only[bV,aW]at h1 a;exact⟨m,h,by omega,by omega⟩
def jB{n:Nat}{cs:az}(h:TyN Tryz.prog N (n+1) 3 cs):∃m:Int,cs=[ii m]:=by unfold TyN at h;rw[underlying3]at h;obtain⟨m,h,_⟩:=h;exact⟨m,h⟩
def O9{n:Nat}{cs:az}(h:TyN Tryz.prog N (n+2) 43 cs):∃v:V3,cs=v.cs:=by
 unfold TyN at h;rw[underlying43]at h;obtain⟨xs,hl,d,rfl⟩:=h
 match xs,hl,d with
 |[x,y,z],_,d=>
  obtain⟨a,rfl⟩:=jB (d x s_);obtain⟨b,rfl⟩:=jB (d y s_);obtain⟨c,rfl⟩:=jB (d z s_);exact⟨⟨a,b,c⟩,rfl⟩
def aOf{n:Nat}{cs:az}(h:TyN Tryz.prog N (n+3) 45 cs):∃g:Gan,cs=g.cs:=by unfold TyN at h;rw[underlying45]at h;obtain⟨w,r,rfl,l,s,r,rfl,h1,o,r,rfl,f,x,r,rfl,h3,q,r,rfl,m,p,r,rfl,c,u,r,rfl,j,rfl⟩:=h;obtain⟨b,rfl⟩:=jB l;obtain⟨a,rfl⟩:=jB h1;obtain⟨k,rfl⟩:=jB f;obtain⟨v,rfl⟩:=O9 h3;obtain⟨i,rfl⟩:=jB m;obtain⟨d,rfl⟩:=jB c;obtain⟨e,rfl⟩:=jB j;exact⟨⟨b,a,k,v,i,d,e⟩,rfl⟩
def aBC{α:Type}{av:α->aa}{P:aa->Prop}{Q:α->Prop}(b:∀x,P x->∃p:α,x=av p/\Q p):∀(xs:az),(∀x∈xs,P x)->∃l:List α,xs=l.map av/\∀p∈l,Q p
 |[],_=>⟨[],rfl,λp h=>by cases h⟩
 |x::xs,h=>by
  obtain⟨p,rfl,hp⟩:=b x (h x s_);obtain⟨l,rfl,hl⟩:=aBC b xs λx c=>h x (by simp[c])
  exact⟨p::l,rfl,λq a=>by
   rcases Ba.1 a with rfl|a
   .exact hp
   .exact hl q a⟩
end
section
variable {N:Nat}
def aOc{n:Nat}{cs:az}(h:TyN Tryz.prog N (n+3) 130 cs):∃x:Nod,cs=x.cs:=by unfold TyN at h;rw[underlying130]at h;obtain⟨j,r,rfl,d,i,r,rfl,h1,f,r,rfl,c,k,r,rfl,h3,g,r,rfl,e,rfl⟩:=h;obtain⟨b,rfl⟩:=jB d;obtain⟨a,rfl⟩:=jB h1;obtain⟨u,rfl⟩:=O9 c;obtain⟨v,rfl⟩:=O9 h3;obtain⟨w,rfl⟩:=O9 e;exact⟨⟨b,a,u,v,w⟩,rfl⟩
def aOe{n:Nat}{cs:az}(h:TyN Tryz.prog N (n+3) 132 cs):∃x:Hos,cs=x.cs:=by unfold TyN at h;rw[underlying132]at h;obtain⟨g,r,rfl,d,f,r,rfl,h1,i,r,rfl,a,j,r,rfl,h3,rfl⟩:=h;obtain⟨e,rfl⟩:=jB d;obtain⟨b,rfl⟩:=jB h1;obtain⟨c,rfl⟩:=jB a;obtain⟨v,rfl⟩:=O9 h3;exact⟨⟨e,b,c,v⟩,rfl⟩
def aJo{n:Nat}{cs:az}(h:TyN Tryz.prog N (n+4) 27 cs):∃l:bc,cs=[CA 11 (nav l) J0]/\Z l<=N:=by
 unfold TyN at h;rw[underlying27]at h;obtain⟨xs,rfl,b,a⟩:=h;have c:Tryz.prog.cellsOf 130=11:=by kernel_rfl
 obtain⟨l,rfl,hl⟩:=aBC (av:=Nod.av) (Q:=λx=>True) (P:=λx=>x∈xs) (λx hm=>by
  obtain⟨cs,rfl⟩:=(a x hm).2.1 (by kernel_rfl);obtain⟨p,hp⟩:=aOc (n:=n) (a _ hm).1
  exact⟨p,by unfold Nod.av;rw[<-hp];rfl,trivial⟩) xs λx hm=>hm
 exact⟨l,by rw[c],by simpa using b⟩
def aJp{n:Nat}{cs:az}(h:TyN Tryz.prog N (n+4) 28 cs):∃l:List Hos,cs=[CA 6 (hav l) J0]/\Z l<=N:=by
 unfold TyN at h;rw[underlying28]at h;obtain⟨xs,rfl,b,a⟩:=h;have c:Tryz.prog.cellsOf 132=6:=by kernel_rfl
 obtain⟨l,rfl,hl⟩:=aBC (av:=Hos.av) (Q:=λx=>True) (P:=λx=>x∈xs) (λx hm=>by
  obtain⟨cs,rfl⟩:=(a x hm).2.1 (by kernel_rfl);obtain⟨p,hp⟩:=aOe (n:=n) (a _ hm).1
  exact⟨p,by unfold Hos.av;rw[<-hp];rfl,trivial⟩) xs λx hm=>hm
 exact⟨l,by rw[c],by simpa using b⟩
def aQW{n:Nat}{cs:az}(h:TyN Tryz.prog 1048576 (n+5) 30 cs):∃c:Con,cs=c.cs/\c.sm:=by unfold TyN at h;rw[underlying30]at h;obtain⟨k,r,rfl,g,j,r,rfl,h1,i,r,rfl,b,l,r,rfl,h3,rfl⟩:=h;obtain⟨ns,rfl,a⟩:=aJo (n:=n) g;obtain⟨hs,rfl,d⟩:=aJp (n:=n) h1;obtain⟨f,rfl⟩:=jB b;obtain⟨e,rfl⟩:=jB h3;exact⟨⟨ns,hs,f,e⟩,rfl,⟨a,d⟩⟩
end
structure StaSm(s:Sta):Prop where
 c:s.c.sm
 pend:Z s.pend<=1048576
 run:Sm s.run
 hist:Z s.hist<=1048576
 fix:∀x∈s.hist,x<18446744073709551616
structure CmSm(x:Cmd):Prop where
 c:x.c.sm
 n: -9223372036854775808<=x.n/\x.n<=9223372036854775807
def aQX{n:Nat}{cs:az}(h:TyN Tryz.prog 1048576 (n+6) 47 cs):∃x:Cmd,cs=x.cs/\CmSm x:=by unfold TyN at h;rw[underlying47]at h;obtain⟨i,r,rfl,d,f,r,rfl,h1,e,r,rfl,a,j,r,rfl,h3,rfl⟩:=h;obtain⟨k,rfl⟩:=jB d;obtain⟨c,rfl,b⟩:=aQW (n:=n) h1;obtain⟨g,rfl⟩:=aOf (n:=n+2) a;obtain⟨m,rfl,hm⟩:=aOd h3;exact⟨⟨k,c,g,m⟩,rfl,b,hm⟩
section
variable {H:Type} {enc:TypeId×Value->H} {W:World} {r:Reach} {base b0:Nat} {spare:Nat->Bool} {held:Bool} {v:Value} {d:DataW H} {ps:List MemPlace}
end
end Go.Proofs.YtenkdioaefckoaaGreatDoor
