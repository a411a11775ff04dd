/- Part 10 of what the statement rests on. -/
import Derived.Test.YtenkdioaefckoaaGreatDoorRows
import Derived.Test.YtenkdioaefckoaaGreatDoorDA
set_option linter.all false
set_option maxHeartbeats 2000000
open Go.AW.Res renaming ret->Io
open Go.AW.St renaming head->G0
open Go.AW.Tk renaming no->J0
open Go.AW.aa renaming agg->He,bool->DA,int->GE,ref->G2,slice->CA,tup->GT
open Go.AW.ab renaming cells->Do,tail->Fr
open Go.IntKind renaming i64->Is,u64->IH
open List renaming length->Z
open Bool renaming true->O,false->U
open Option renaming some->X,none->D
open And renaming intro->Aa
open Bool renaming and_eq_true->Af
open Decidable renaming byContradiction->Lp,not_not->Du
open Int renaming le_refl->Em,mul_nonneg->Js,toNat_natCast->Bo
open List renaming Nodup->Mx,all_eq_true->Cj,any_eq_true->Fy,append_assoc->Ag,append_nil->Ao,count_pos_iff->Ll,drop_eq_getElem_cons->Ac,drop_eq_nil_of_le->Ae,drop_zero->Ca,filter_cons->Hf,filter_cons_of_neg->Fz,filter_cons_of_pos->Ga,foldl_cons->Ap,getElem_mem->Aq,length_append->Ah,length_cons->Al,length_eq_zero_iff->Cm,length_map->Bw,length_pos_iff->Dd,map_append->Bi,map_cons->Bf,map_map->Dz,mem_append->Cc,mem_append_left->Di,mem_append_right->Cy,mem_cons->Az,mem_cons_of_mem->Bb,mem_cons_self->Aw,mem_filter->Fp,mem_map->Cq,mem_map_of_mem->Cf,mem_singleton->Dr,nodup_append->Cr,nodup_cons->Ci,nodup_nil->Ib,pairwise_cons->Bt,pairwise_map->Gu,perm_append_comm->Dx,perm_middle->Gb,replicate->Ak,take_append_drop->Bn
open List.Pairwise renaming imp->Jx,nil->Lu
open List.Perm renaming append_left->Ds,append_right->Dv,refl->Fj,trans->Nb
open List.cons renaming inj->Fv
open Nat renaming le_add_right->Iy,le_succ->Jq,le_trans->Cp,mul_le_mul->Eg
namespace Go.Proofs.YtenkdioaefckoaaGreatDoor
variable{P:Prop}
open Go.Proofs.Tryz
open Go Go.AW Go.Proofs
set_option maxRecDepth 10000
def zqya0(h:P:=by
 refine eA (Er [] [120,132,133]) f83 2 λ_=>?_
 exact zW):P:=h
def zqya1(h:P:=by
 obtain⟨k,c,g,n⟩:=x;dsimp only at a;subst a
 exact c_ f97 λ_=>zW):P:=h
def zqya2(h:P:=by
 refine eA E f99 1 λ_=>?_
 exact zW):P:=h
def zqya3(h:P:=by exact c_ f13 λ_=>zW):P:=h
def zqya4(h:P:=by
 have b:rav (s.run++[⟨p.g,p.seq,p.at',s.now,x.1,x.2⟩])=rav s.run++[Rn.av ⟨p.g,p.seq,p.at',s.now,x.1,x.2⟩]:=by simp
 unfold rdS rdO rdC ruV at a;dsimp only at a;rw[b]at a;generalize dS s.pend p.g.id=pq at *
 clear b e;refine eA (Er [] [60,64,86,87,88]) f232 3 λ_=>?_
 exact zW):P:=h
def zqya5(h:P:=by
 refine gA (Eo [7] []) f38 λ_=>?_
 exact zW):P:=h
def zqya6(h:P:=by exact c_ f87 λ_=>zW):P:=h
def zqya7(h:P:=by exact c_ f37 λ_=>zW):P:=h
def zqya8(h:P:=by
 refine eA (Er [] [39,40,59,60,61,62,63,64]) f162 3 λ_=>?_
 exact zW):P:=h
def zqya9(h:P:=by exact c_ f15 λ_=>zW):P:=h
def zqya10(h:P:=by
 refine eA (Eo [6] []) f102 1 λ_=>?_
 exact zW):P:=h
def zqya11(h:P:=by
 have h1:=C8.rcheck_any x 0 b;obtain⟨k,c,g,n⟩:=x;dsimp only at a;subst a
 exact zqya3):P:=h
def zqya12(h:P:=by
 rw[Ae o_]at a;have a: -1=r:=a;subst a;refine gV ?_
 exact zW):P:=h
def zqya13(h:P:=by
 refine eA (Er [] [60,64,86,87,88]) f232 3 λ_=>?_
 exact zW):P:=h
def zqya14(h:P:=by
 intro i a q o b;rw[Ae o_]at b;have b:a++[]=R:=b;rw[Ao]at b;subst b;refine gV ?_
 exact zW):P:=h
def zqya15(h:P:=by
 refine eA (Er [] [24,38]) f98 1 λ_=>?_
 exact zW):P:=h
def zqya16(h:P:=by
 rw[bt (by rw[c];decide)]at a;rw[c]at g;have next:=d a
 refine gV ?_
 exact zW):P:=h
def zqya17(h:P:=by
 refine aL ?_;conv=>whnf
 refine⟨?_,trivial⟩;conv=>whnf
 refine aL ?_;conv=>whnf
 exact zW):P:=h
def zqya18(h:P:=by
 intro i k c;rw[Ae o_,Ae o_]at c;have c:O=r:=c;subst c;refine gV ?_
 exact zW):P:=h
def zqya19(h:P:=by
 unfold bM;rw[B];unfold CB;dsimp only;rw[K]
 rfl):P:=h
def zqya20(h:P:=by
 refine eA E f100 2 λ_=>?_
 exact zW):P:=h
def zqya21(h:P:=by
 generalize bM r p=r2 at *
 refine gV ?_
 exact zW):P:=h
def zqya22(h:P:=by
 have d:U=r:=d;subst d
 exact zqya9):P:=h
def zqya23(h:P:=by exact c_ f60 λ_=>zW):P:=h
def zqya24(h:P:=by
 rw[bu c]at a;rw[c]at g;subst a;refine gV ?_
 exact zW):P:=h
def QY(l:bf)(h:Z l<=1048576):bj 136 [CA 11 (nav l) J0] (CA 11 (nav l) J0):=by
 have a:Z (nav l)=Z l:=by simp
 refine c_ f136 λ_=>gV ?_;intro b c;refine gV ?_;refine⟨λh=>?_,λh=>?_⟩
 .have h:b=true:=h;have e:nav l=[]:=c h;refine gV ?_;rw[e]
 .have h:b=false:=h;exact zW
def QZ(l:List Hos)(h:Z l<=1048576):bj 137 [CA 6 (hav l) J0] (CA 6 (hav l) J0):=by
 have a:Z (hav l)=Z l:=by simp
 refine c_ f137 λ_=>gV ?_;intro b c;refine gV ?_;refine⟨λh=>?_,λh=>?_⟩
 .have h:b=true:=h;have e:hav l=[]:=c h;refine gV ?_;rw[e]
 .have h:b=false:=h;exact zW
def aAf(l:ba)(h:Z l<=1048576):bj 138 [CA 11 (pnv l) J0] (CA 11 (pnv l) J0):=by
 have a:Z (pnv l)=Z l:=by simp
 refine c_ f138 λ_=>gV ?_;intro b c;refine gV ?_;refine⟨λh=>?_,λh=>?_⟩
 .have h:b=true:=h;have e:pnv l=[]:=c h;refine gV ?_;rw[e]
 .have h:b=false:=h;exact zW
def aAg(l:a6)(h:Z l<=1048576):bj 139 [CA 1 (fv l) J0] (CA 1 (fv l) J0):=by
 have a:Z (fv l)=Z l:=by simp
 refine c_ f139 λ_=>gV ?_;intro b c;refine gV ?_;refine⟨λh=>?_,λh=>?_⟩
 .have h:b=true:=h;have e:fv l=[]:=c h;refine gV ?_;rw[e]
 .have h:b=false:=h;exact zW
abbrev CR(l:a7):aw:=[.row 0 14 85 (rav l)]
def aE9(l:a7)(hs:Sm l)(ids:ax)(p:Z ids<=1048576)(R:a7):∀(m i:Nat) (a:a7),i+m=Z l->Z a<=i->a++aB (l.drop i) ids=R->
  To (Er [5] []) f140 (.full 0 (Io (.row 0 0)) (CR R)) (BV f140 [(1,CA 1 (iv ids) J0),(5,.row 0 0),(8,CA 14 (rav l) J0),(9,GE Is (Z (rav l):Nat)),(10,ii i)] (CR a)):=by
 have j:Z (rav l)=Z l:=by simp
 have hl:=hs.1;intro m;induction m with
 | zero=>
  exact zqya14
 | succ m f=>
  intro i a q o b;have c:i<Z l:=o_;have h:=hs.at c;rw[Ac c]at b;generalize r:l[i]=x at b h;have get:(rav l)[i]? =X x.av:=(cH c).trans (by rw[r]);have s:Z (rav a)=Z a:=by simp
  have n:=B4 ids p x.g.id;cases d:inB x.g.id ids with
  | true=>
   rw[d]at n;rw[lY d]at b;have next:=f (i+1) a o_ o_ b
   exact tA
  | false=>
   rw[d]at n;rw[lX d]at b;have next:=f (i+1) (a++[x]) o_ q_ (by rw[Ag];exact b)
   have e:rav (a++[x])=rav a++[x.av]:=by simp
   unfold CR at next
   rw[e]at next
   refine gV ?_;have k:=FB x h;exact zW
def aO2(l:a7)(hs:Sm l)(ids:ax)(a:Z ids<=1048576):ar 140 [CA 14 (rav l) J0,CA 1 (iv ids) J0] [] (Io (.row 0 0)) (CR (aB l ids)):=by have h1:=aE9 l hs ids a _ (Z l) 0 [] o_ s_ rfl;refine eA (Er [5] []) f140 0 λ_=>?_;exact zW
def aKi(l:a7)(hs:Sm l):ar 140 [CA 14 (rav l) J0,.nilslice] [] (Io (.row 0 0)) (CR l):=by have h:=aO2 l hs [] s_;rw[fE]at h;exact aA.nil2 h
abbrev S5:aw:=[Fr 0 14 85]
def aFb(l:a7)(hs:Sm l)(ids:ax)(p:Z ids<=1048576)(R:a7):∀(m i:Nat) (a:a7),i+m=Z l->Z a<=i->a++aB (l.drop i) ids=R->
  To (Eo [5] []) f140 (.full 0 (Io (CA 14 (rav R) (.own 0 0))) S5) (BV f140 [(1,CA 1 (iv ids) J0),(5,CA 14 (rav a) (.own 0 0)),(8,CA 14 (rav l) J0),(9,GE Is (Z (rav l):Nat)),(10,ii i)] S5):=by
 have k:Z (rav l)=Z l:=by simp
 have hl:=hs.1;intro m;induction m with
 | zero=>
  exact zqya14
 | succ m h=>
  intro i a q o b;have c:i<Z l:=o_;have j:=hs.at c;rw[Ac c]at b;generalize r:l[i]=x at b j;have get:(rav l)[i]? =X x.av:=(cH c).trans (by rw[r]);have s:Z (rav a)=Z a:=by simp
  have n:=B4 ids p x.g.id;cases d:inB x.g.id ids with
  | true=>
   rw[d]at n;rw[lY d]at b;have next:=h (i+1) a o_ o_ b
   exact tA
  | false=>
   rw[d]at n;rw[lX d]at b;have next:=h (i+1) (a++[x]) o_ q_ (by rw[Ag];exact b)
   have e:rav (a++[x])=rav a++[x.av]:=by simp
   rw[e]at next
   refine gV ?_;have f:=FB x j;exact zW
def aFa(l:a7)(hs:Sm l)(ids:ax)(a:Z ids<=1048576):ar 140 [CA 14 (rav l) J0,CA 1 (iv ids) J0] [] (Io (CA 14 (rav (aB l ids)) (.own 0 0))) S5:=by have h1:=aFb l hs ids a _ (Z l) 0 [] o_ s_ rfl;refine eA (Eo [5] []) f140 0 λ_=>?_;exact zW
def aKj(l:a7)(hs:Sm l):ar 140 [CA 14 (rav l) J0,.nilslice] [] (Io (CA 14 (rav l) (.own 0 0))) S5:=by have h:=aFa l hs [] s_;rw[fE]at h;exact aA.nil2 h
structure StaSm'(s:Sta):Prop where
 ns:Z s.c.ns<=1048576
 hs:Z s.c.hs<=1048576
 pend:Z s.pend<=1048576
 run:Sm s.run
 hist:Z s.hist<=1048576
def Sta.avR(s:Sta)(k g:Nat):aa:=He [CA 11 (nav s.c.ns) J0,CA 6 (hav s.c.hs) J0,ii s.c.half,ii s.c.age,ii s.now,ii s.nxt,CA 11 (pnv s.pend) J0,.row k g,CA 1 (fv s.hist) J0]
def Sta.avO(s:Sta)(k g:Nat):aa:=He [CA 11 (nav s.c.ns) J0,CA 6 (hav s.c.hs) J0,ii s.c.half,ii s.c.age,ii s.now,ii s.nxt,CA 11 (pnv s.pend) J0,CA 14 (rav s.run) (.own k g),CA 1 (fv s.hist) J0]
def aNV(s:Sta)(h:StaSm' s):ar 160 [s.av] [] (Io (s.avO 0 0)) S5:=by have h1:=QY s.c.ns h.ns;have b:=QZ s.c.hs h.hs;have h3:=aAf s.pend h.pend;have a:=aAg s.hist h.hist;have d:=aKj s.run h.run;refine eA E f160 0 λ_=>?_;exact zW
def FE(s:Sta)(h:StaSm' s):ar 95 [s.av] [] (Io (s.avR 0 0)) (CR s.run):=by have h1:=QY s.c.ns h.ns;have b:=QZ s.c.hs h.hs;have h3:=aAf s.pend h.pend;have a:=aAg s.hist h.hist;have d:=aKi s.run h.run;refine eA E f95 0 λ_=>?_;exact zW
abbrev rdC(r:Rd)(run:aa)(ge:Nat):az:=[CA 11 (nav r.s.c.ns) J0,CA 6 (hav r.s.c.hs) J0,ii r.s.c.half,ii r.s.c.age,ii r.s.now,ii r.s.nxt,CA 11 (pnv r.s.pend) J0,run,CA 1 (fv r.s.hist) J0,CA 3 (evv r.ev) (.own 1 ge),DA r.head,ii r.start]
abbrev rdO(r:Rd)(run:aa)(ge:Nat):ab:=Do 252 (rdC r run ge)
abbrev evT(g:Nat):ab:=Fr g 3 82
abbrev ruT(g:Nat):ab:=Fr g 14 85
abbrev ruV(l:a7)(k g:Nat):aa:=CA 14 (rav l) (.own k g)
abbrev rdS(r:Rd)(ge gr:Nat):aw:=[rdO r (ruV r.s.run 2 gr) ge,evT ge,ruT gr]
def kS(r:Rd)(e:Ev):Rd:=⟨r.s,r.ev++[e],r.head,r.start⟩
def PT(r:Rd)(k id n:Int)(hl:Z r.ev<=1048576):ar 236 [G2 0 0,ii k,ii id,ii n] (rdS r 0 0) (Io (GT [])) (rdS (kS r ⟨k,id,n⟩) 1 0):=by
 have a:Z (evv r.ev)=Z r.ev:=by simp
 have e:evv (r.ev++[⟨k,id,n⟩])=evv r.ev++[Ev.av ⟨k,id,n⟩]:=by simp
 unfold kS;show aA _ _ _ _ _ [Do _ [_,_,_,_,_,_,_,_,_,CA 3 (evv (r.ev++[⟨k,id,n⟩])) (.own 1 1),_,_],_,_];rw[e];refine eA E f236 3 λ_=>?_;exact zW
def T2(r:Rd)(l:a7)(k id n:Int)(hl:Z r.ev<=1048576):ar 236 [G2 0 0,ii k,ii id,ii n] [rdO r (CA 14 (rav l) J0) 0,evT 0] (Io (GT [])) [rdO (kS r ⟨k,id,n⟩) (CA 14 (rav l) J0) 1,evT 1]:=by
 have a:Z (evv r.ev)=Z r.ev:=by simp
 have e:evv (r.ev++[⟨k,id,n⟩])=evv r.ev++[Ev.av ⟨k,id,n⟩]:=by simp
 unfold kS;show aA _ _ _ _ _ [Do _ [_,_,_,_,_,_,_,_,_,CA 3 (evv (r.ev++[⟨k,id,n⟩])) (.own 1 1),_,_],_];rw[e];refine eA E f236 2 λ_=>?_;exact zW
def kA{n a:Nat}(h:n<=1048576)(b:a<=1000):DB (n+1) a:=Aa (by simp only[maxLen];omega) (Cp (Eg (show n+1<=1048577 by omega) b) d_)
def aUe(r:Rd)(p:Pn)(a:bj 213 [r.s.c.av,CA 14 (rav r.s.run) J0,p.g.av] (fdA D)):
  ar 232 [G2 0 0,p.av] (rdS r 0 0) (Io (DA U)) (rdS r 0 0):=by
 obtain⟨s,ev,head,start⟩:=r;exact zqya13
def aUg(s:Sta)(ev:bh)(start:Int)(p:Pn)(x:Int×ax)(a:bj 213 [s.c.av,CA 14 (rav s.run) J0,p.g.av] (fdA (X x)))
  (hm:bj 289 [ii s.now,p.g.av,ii start] (DA U)):
  ar 232 [G2 0 0,p.av] (rdS ⟨s,ev,O,start⟩ 0 0) (Io (DA U)) (rdS ⟨s,ev,O,start⟩ 0 0):=by
 exact zqya13
def aUd(s:Sta)(ev:bh)(start:Int)(p:Pn)(x:Int×ax)(j:bj 213 [s.c.av,CA 14 (rav s.run) J0,p.g.av] (fdA (X x)))(h:Z ev<=1000000)(hp:Z s.pend<=1000000)(d:Z (rav s.run)<=1048576)
  (hm:bj 289 [ii s.now,p.g.av,ii start] (DA O)):
  ar 232 [G2 0 0,p.av] (rdS ⟨s,ev,O,start⟩ 0 0) (Io (DA O)) (rdS (zY ⟨s,ev,O,start⟩ p x.1 x.2) 1 1):=by
 have e:zY ⟨s,ev,O,start⟩ p x.1 x.2=kS ⟨{s with pend:=dS s.pend p.g.id,run:=s.run++[⟨p.g,p.seq,p.at',s.now,x.1,x.2⟩]},ev,O,start⟩ ⟨1,p.g.id,x.1⟩:=rfl;have a:=PT ⟨{s with pend:=dS s.pend p.g.id,run:=s.run++[⟨p.g,p.seq,p.at',s.now,x.1,x.2⟩]},ev,O,start⟩ 1 p.g.id x.1 (by show Z ev<=_;omega);have i:=vJ s.pend p.g.id hp;rw[e];generalize kS ⟨{s with pend:=dS s.pend p.g.id,run:=s.run++[⟨p.g,p.seq,p.at',s.now,x.1,x.2⟩]},ev,O,start⟩ ⟨1,p.g.id,x.1⟩=r2 at *
 exact zqya4
def aUf(s:Sta)(ev:bh)(start:Int)(p:Pn)(x:Int×ax)(h:bj 213 [s.c.av,CA 14 (rav s.run) J0,p.g.av] (fdA (X x)))(i:Z ev<=1000000)(hp:Z s.pend<=1000000)(d:Z (rav s.run)<=1048576):
  ar 232 [G2 0 0,p.av] (rdS ⟨s,ev,U,start⟩ 0 0) (Io (DA O)) (rdS (zY ⟨s,ev,U,start⟩ p x.1 x.2) 1 1):=by
 have hm:=h;have e:zY ⟨s,ev,U,start⟩ p x.1 x.2=kS ⟨{s with pend:=dS s.pend p.g.id,run:=s.run++[⟨p.g,p.seq,p.at',s.now,x.1,x.2⟩]},ev,U,start⟩ ⟨1,p.g.id,x.1⟩:=rfl;have a:=PT ⟨{s with pend:=dS s.pend p.g.id,run:=s.run++[⟨p.g,p.seq,p.at',s.now,x.1,x.2⟩]},ev,U,start⟩ 1 p.g.id x.1 (by show Z ev<=_;omega);have j:=vJ s.pend p.g.id hp;rw[e];generalize kS ⟨{s with pend:=dS s.pend p.g.id,run:=s.run++[⟨p.g,p.seq,p.at',s.now,x.1,x.2⟩]},ev,U,start⟩ ⟨1,p.g.id,x.1⟩=r2 at *
 exact zqya4
def W0(r:Rd)(p:Pn)(j:r.s.c.sm)(hs:Sm r.s.run)(hp:Z r.s.pend<=1000000)(i:Z r.ev<=1000000)(k:0<=p.g.pods/\p.g.pods<=16):
  (admR r p=(r,U)/\ar 232 [G2 0 0,p.av] (rdS r 0 0) (Io (DA U)) (rdS r 0 0))\/
  ((admR r p).2=O/\ar 232 [G2 0 0,p.av] (rdS r 0 0) (Io (DA O)) (rdS (admR r p).1 1 1)):=by
 have b:Z (rav r.s.run)<=1048576:=by simpa using hs.1
 have a:=BU r.s.c j r.s.run hs p.g k;have hm:=aN6 r.s.now p.g r.start;unfold admR;cases h:cL r.s.c r.s.run p.g with
 | none=>
  rw[h]at a;exact .inl ⟨rfl,aUe r p a⟩
 | some x=>
  rw[h]at a;obtain⟨s,ev,head,start⟩:=r;cases head with
  | false=>exact .inr ⟨rfl,aUf s ev start p x a i hp b⟩
  | true=>
   cases d:bmB s.now p.g start with
   | false=>
    have e:CB ⟨s,ev,O,start⟩ p (X x)=(⟨s,ev,O,start⟩,U):=by unfold CB;exact bu (by rw[d];rfl)
    rw[e];dsimp only at hm;rw[d]at hm;exact .inl ⟨rfl,aUg s ev start p x a hm⟩
   | true=>
    have e:CB ⟨s,ev,O,start⟩ p (X x)=(zY ⟨s,ev,O,start⟩ p x.1 x.2,O):=by unfold CB;exact bt (by rw[d];simp)
    rw[e];dsimp only at hm;rw[d]at hm;exact .inr ⟨rfl,aUd s ev start p x a i hp b hm⟩
def bC(id:Int)(x:Rn):Bool:=x.g.id==id
abbrev idF(n:Nat)(id:Int):aa:=.func (.func n) [] [.ptr [ii id]]
def ZB(n:Nat)(id:Int)(e:∀x:Rn,aA Tryz.prog n [x.av,.ptr [ii id]] [] (Io (DA (bC id x))) [])(l:a7)(hl:Z l<=1048576)(r:Int):∀(m i:Nat),i+m=Z l->aO (bC id) (l.drop i) i=r->
  DE E f211 (ii r) [(0,CA 14 (rav l) J0),(1,idF n id),(7,GE Is (Z (rav l):Nat)),(8,ii i)] []:=by
 have f:Z (rav l)=Z l:=by simp
 intro m;induction m with
 | zero=>
  intro i h a;exact zqya12
 | succ m d=>
  intro i h a;have b:i<Z l:=o_;rw[Ac b]at a;have get:(rav l)[i]? =X l[i].av:=cH b;generalize l[i]=x at a get;unfold aO at a;have g:=e x;have d:=d (i+1) o_;cases c:bC id x with
  | true=>
   exact zqya24
  | false=>
   exact zqya16
def IR(n:Nat)(id:Int)(a:∀x:Rn,aA Tryz.prog n [x.av,.ptr [ii id]] [] (Io (DA (bC id x))) [])(l:a7)(hl:Z l<=1048576):bj 211 [CA 14 (rav l) J0,idF n id] (ii (aO (bC id) l 0)):=by refine c_ f211 λ_=>gV ?_;exact To.cut [0,1,7,8] 0 rfl rfl rfl rfl (ZB n id a l hl _ (Z l) 0 o_ rfl)
def aCm(id:Int)(x:Rn):bj 297 [x.av,.ptr [ii id]] (DA (bC id x)):=by unfold bC;exact c_ f297 λ_=>zW
def LY(id:Int)(x:Rn):bj 212 [x.av,.ptr [ii id]] (DA (bC id x)):=by unfold bC;exact c_ f212 λ_=>zW
def oK(p:Rn->Bool):∀(l:a7) (i:Nat),aO p l i= -1\/((i:Int)<=aO p l i/\aO p l i<(i:Int)+Z l)
 | [],i=>.inl rfl
 | x::l,i=>by
  unfold aO;by_cases h:p x=O
  .rw [bu h];right;simp;omega
  .rw [bt h];rcases oK p l (i+1)with a|a
   .exact .inl a
   .right;simp;omega
abbrev evF(ids:ax)(i:Nat):au:=[(0,G2 0 0),(1,CA 1 (iv ids) J0),(8,CA 1 (iv ids) J0),(9,GE Is (Z (iv ids):Nat)),(10,ii i)]
abbrev evD(Q:Rd)(run:a7)(ids:ax):Rd:=⟨{Q.s with run:=aB run ids},Q.ev,Q.head,Q.start⟩
abbrev evG(Q:Rd)(run:a7)(ids:ax)(g:Nat):Goal:=.full 2 (Io (GT [])) [rdO (evD Q run ids) (ruV (aB run ids) 2 0) g,evT g,ruT 0]
abbrev evB(q:Rd)(run:a7)(g:Nat):aw:=[rdO q (CA 14 (rav run) J0) g,evT g]
def vK(l:ba)(p:Pn):Z (jO l p)=Z l+1:=by unfold jO;rw[Ah,Ah,List.length_singleton];have:=congrArg List.length (Bn (Q2.putAt p.q (l.map Pn.q)) l);rw[Ah]at this;omega
def aNd(run:a7)(hs:Sm run)(ids:ax)(w:Z ids<=1048576)(k:∀id∈ids,0<=aO (bC id) run 0)(Q:Rd):∀(m i:Nat) (q:Rd),i+m=Z ids->(ids.drop i).foldl (dU run) q=Q->Z q.s.pend+m<=1000000->Z q.ev+m<=1000000->
  To E f234 (evG Q run ids 1) (BV f234 (evF ids i) (evB q run 1)):=by
 intro m;induction m with
 | zero=>
  intro i q z b hp p;rw[Ae o_]at b;have b:q=Q:=b;subst b;have B:=aFa run hs ids w;have o:Z (iv ids)=Z ids:=by simp
  have v:evG q run ids 1= .full 2 (Io (GT [])) [rdO q (ruV (aB run ids) 2 0) 1,evT 1,ruT 0]:=rfl;rw[v];generalize aB run ids=rn at *
  exact tA
 | succ m t=>
  intro i q z b hp p;have c:i<Z ids:=o_;rw[Ac c,Ap]at b;have l:=k _ (Aq c);have get:(iv ids)[i]? =X (ii ids[i]):=by simp[c]
  generalize ids[i]=id at b l get;have h1:=IR _ id (aCm id) run hs.1
  obtain⟨at',d⟩:∃a:Nat,aO (bC id) run 0=(a:Int):=⟨(aO (bC id) run 0).toNat,by omega⟩
  have f:at'<Z run:=by
   rcases oK (bC id) run 0 with h|h
   .omega
   .rw [d]at h;omega
  have C:=iI f;have j:dU run q id=kS ⟨{q.s with pend:=jO q.s.pend (aH run at').pn},q.ev,q.head,q.start⟩ ⟨2,id,0⟩:=by
   have e:(aO (λx=>x.g.id==id) run 0).toNat=at':=by have r:aO (bC id) run 0=at':=d;have y:aO (λx=>x.g.id==id) run 0=aO (bC id) run 0:=rfl;rw[y,r];rfl
   unfold dU;rw[e];rfl
  rw[j]at b;rw[d]at h1;have A:=PI q.s.pend (aH run at').pn o_;have h3:=T2 ⟨{q.s with pend:=jO q.s.pend (aH run at').pn},q.ev,q.head,q.start⟩ run 2 id 0 (by show Z q.ev<=_;omega);have next:=t (i+1) (kS ⟨{q.s with pend:=jO q.s.pend (aH run at').pn},q.ev,q.head,q.start⟩ ⟨2,id,0⟩) o_ b (by show Z (jO _ _)+m<=_;rw[vK];omega) (by show Z (q.ev++[_])+m<=_;simp;omega)
  generalize kS ⟨{q.s with pend:=jO q.s.pend (aH run at').pn},q.ev,q.head,q.start⟩ ⟨2,id,0⟩=q2 at *
  generalize jO q.s.pend (aH run at').pn=pq at *
  have n:(aH run at').pn=⟨(aH run at').g,(aH run at').seq,(aH run at').at'⟩:=rfl;rw[n]at A;generalize aH run at'=x at *
  have o:Z (iv ids)=Z ids:=by simp
  have u:Z (rav run)=Z run:=by simp
  clear j b k;exact tA
def aIW(r:Rd)(run:a7)(c:r.s.run=run)(hs:Sm run)(ids:ax)(G:Z ids<=1048576)(w:ids≠[])(l:∀id∈ids,0<=aO (bC id) run 0)(hp:Z r.s.pend+Z ids<=1000000)(B:Z r.ev+Z ids<=1000000):
  ar 234 [G2 0 0,CA 1 (iv ids) J0] (evB r run 0) (Io (GT [])) [rdO (gQ r ids) (ruV (gQ r ids).s.run 2 0) 1,evT 1,ruT 0]:=by
 have z:gQ r ids=evD (ids.foldl (dU run) r) run ids:=by rw[<-c];rfl
 rw[z]
 obtain⟨Q,j⟩:∃Q,(ids.drop 0).foldl (dU run) r=Q:=⟨_,rfl⟩
 have t:ids.foldl (dU run) r=Q:=j;rw[t];have ev:=aNd run hs ids G l Q;have u:0<Z ids:=Dd.2 w
 obtain⟨m,hm⟩:∃m,Z ids=m+1:=⟨Z ids-1,by omega⟩
 have Be:(0:Nat)=0:=rfl;have key:To E f234 (evG Q run ids 1) (BV f234 (evF ids 0) (evB r run 0)):=by
  have hp:Z r.s.pend+(m+1)<=1000000:=o_;have B:Z r.ev+(m+1)<=1000000:=o_;have I:0+(m+1)=Z ids:=o_;clear t z c
  obtain⟨i,d⟩:∃i:Nat,i=0:=⟨_,rfl⟩
  have b:∀q,q=r->To E f234 (evG Q run ids 1) (BV f234 (evF ids i) (evB q run 0)):=by
   intro q K;subst K;rw[<-d]at j I;have C:=λq=>ev m (i+1) q o_;clear Be ev d u;have k:i<Z ids:=o_;rw[Ac k,Ap]at j;have v:=l _ (Aq k);have get:(iv ids)[i]? =X (ii ids[i]):=by simp[k]
   generalize ids[i]=id at j v get;have h1:=IR _ id (aCm id) run hs.1
   obtain⟨at',n⟩:∃a:Nat,aO (bC id) run 0=(a:Int):=⟨(aO (bC id) run 0).toNat,by omega⟩
   have o:at'<Z run:=by
    rcases oK (bC id) run 0 with h|h
    .omega
    .rw [n]at h;omega
   have N:=iI o;have p:dU run q id=kS ⟨{q.s with pend:=jO q.s.pend (aH run at').pn},q.ev,q.head,q.start⟩ ⟨2,id,0⟩:=by
    have e:(aO (λx=>x.g.id==id) run 0).toNat=at':=by have M:aO (bC id) run 0=at':=n;have H:aO (λx=>x.g.id==id) run 0=aO (bC id) run 0:=rfl;rw[H,M];rfl
    unfold dU;rw[e];rfl
   rw[p]at j;rw[n]at h1;have L:=PI q.s.pend (aH run at').pn o_;have h3:=T2 ⟨{q.s with pend:=jO q.s.pend (aH run at').pn},q.ev,q.head,q.start⟩ run 2 id 0 (by show Z q.ev<=_;omega);have next:=C (kS ⟨{q.s with pend:=jO q.s.pend (aH run at').pn},q.ev,q.head,q.start⟩ ⟨2,id,0⟩)  j (by show Z (jO _ _)+m<=_;rw[vK];omega) (by show Z (q.ev++[_])+m<=_;simp;omega)
   generalize kS ⟨{q.s with pend:=jO q.s.pend (aH run at').pn},q.ev,q.head,q.start⟩ ⟨2,id,0⟩=q2 at *
   generalize jO q.s.pend (aH run at').pn=pq at *
   have y:(aH run at').pn=⟨(aH run at').g,(aH run at').seq,(aH run at').at'⟩:=rfl;rw[y]at L;generalize aH run at'=x at *
   have J:Z (iv ids)=Z ids:=by simp
   have F:Z (rav run)=Z run:=by simp
   clear p j l;exact tA
  rw[d]at b;exact b r rfl
 refine eA E f234 2 λ_=>?_;exact zW
abbrev aE2(r:Rd)(p:Pn)(b:Bool)(As:aw):Prop:=ar 232 [G2 0 0,p.av] (rdS r 0 0) (Io (DA b)) As
abbrev oC(r:Rd)(p:Pn)(As:aw):Prop:=ar 162 [G2 0 0,p.av] (rdS r 0 0) (Io (GT [])) As
abbrev aRt(r:Rd)(p:Pn)(Q:Option ax):Prop:=bj 233 [r.s.c.av,CA 14 (rav r.s.run) J0,p.g.av] (chR Q)
abbrev aRZ(r:Rd)(p:Pn)(Q:Option Int):Prop:=bj 235 [r.s.c.av,ii r.s.now,CA 14 (rav r.s.run) J0,p.g.av] (stA Q)
def H8(r R:Rd)(p:Pn)(h1:aE2 r p O (rdS R 1 1)):oC r p (rdS R 1 1):=by exact zqya8
def aSv(s:Sta)(ev:bh)(st:Int)(p:Pn)(h1:aE2 ⟨s,ev,O,st⟩ p U (rdS ⟨s,ev,O,st⟩ 0 0)):oC ⟨s,ev,O,st⟩ p (rdS ⟨s,ev,O,st⟩ 0 0):=by exact zqya8
def aSu(s:Sta)(ev:bh)(p:Pn)(h1:aE2 ⟨s,ev,U,0⟩ p U (rdS ⟨s,ev,U,0⟩ 0 0))(a:aRt ⟨s,ev,U,0⟩ p D)(h3:aRZ ⟨s,ev,U,0⟩ p D):oC ⟨s,ev,U,0⟩ p (rdS ⟨s,ev,U,0⟩ 0 0):=by exact zqya8
theorem aSt(s:Sta)(ev:bh)(st:Int)(p:Pn)(n:Int)(c:Z ev<=1000000)(h1:aE2 ⟨s,ev,U,st⟩ p U (rdS ⟨s,ev,U,st⟩ 0 0))(b:aRt ⟨s,ev,U,st⟩ p D)(h3:aRZ ⟨s,ev,U,st⟩ p (X n)):oC ⟨s,ev,U,st⟩ p (rdS ⟨s,ev++[⟨4,p.g.id,n⟩],O,n⟩ 1 0):=by
 have a:=PT ⟨s,ev,O,n⟩ 4 p.g.id n (by show Z ev<=_;omega);unfold kS at a;dsimp only at a;generalize ev++[⟨4,p.g.id,n⟩]=ev2 at *
 refine eA (Er [] [39,40,59,60,61,62,63,64]) f162 3 λ_=>?_
 repeat' first|refine pA ?_|refine .eff [] [0,1,2] _ _ rfl h1 ?_|refine .p b ?_|refine .p h3 ?_|refine .sole rfl (.eff [] [0,1,2] _ _ rfl a ?_)|exact rfl|refine lA ?_ ?_|intro h
 refine⟨[],[0,1,2],⟨rfl,rfl⟩,rfl,rfl⟩
abbrev aT3(r:Rd)(ids:ax)(R:Rd):Prop:=ar 234 [G2 0 0,CA 1 (iv ids) J0] (evB r r.s.run 0) (Io (GT [])) [rdO R (ruV R.s.run 2 0) 1,evT 1,ruT 0]
theorem H7(s:Sta)(ev:bh)(st:Int)(p:Pn)(ids:ax)(R:Rd)(h1:aE2 ⟨s,ev,U,st⟩ p U (rdS ⟨s,ev,U,st⟩ 0 0))(j:aRt ⟨s,ev,U,st⟩ p (X ids))(h3:aT3 ⟨s,ev,U,st⟩ ids R)
  (c:Rd) (b:Bool) (a d:Nat) (i:aE2 R p b (rdS c a d)) (e:a=0/\d=0\/a=1/\d=1):oC ⟨s,ev,U,st⟩ p [rdO c (ruV c.s.run 3 0) 1,evT 1,ruT 0,ruT 0]:=by
 rcases e with⟨rfl,rfl⟩|⟨rfl,rfl⟩
 all_goals
  refine eA (Er [] [39,40,59,60,61,62,63,64]) f162 3 λ_=>?_
  repeat' first|refine pA ?_|refine .eff [] [0,1,2] _ _ rfl h1 ?_|refine .p j ?_|refine .eff [] [0,1] _ _ rfl h3 ?_|refine .eff [] [0,1,4] _ _ rfl i ?_|exact rfl|refine lA ?_ ?_|intro h
  refine⟨[],[0,1,2,4],⟨rfl,rfl⟩,rfl,rfl⟩
def F4(r:Rd)(p:Pn):Prop:=
 (bM r p=r/\oC r p (rdS r 0 0))\/oC r p (rdS (bM r p) 1 1)\/oC r p (rdS (bM r p) 1 0)\/oC r p [rdO (bM r p) (ruV (bM r p).s.run 3 0) 1,evT 1,ruT 0,ruT 0]
abbrev LB:ab:=Do 35 [CA 11 [] .nil,CA 6 [] .nil,ii 0,ii 0,ii 0,ii 0,CA 11 [] .nil,CA 14 [] .nil,CA 1 [] .nil]
abbrev aTH(L:ba)(i:Nat):au:=[(2,G2 3 0),(4,G2 0 0),(12,CA 11 (pnv L) J0),(13,GE Is (Z (pnv L):Nat)),(14,ii i)]
abbrev aTG(r:Rd):aw:=[rdO r (ruV r.s.run 2 0) 0,evT 0,ruT 0,LB]
def aF9(b:Rd->ba->Prop)(k:∀r p rest,b r (p::rest)->F4 r p/\b (bM r p) rest)(L:ba)(n:Z L<=1000000)(R:Rd):∀(m i:Nat) (r:Rd),i+m=Z L->(L.drop i).foldl bM r=R->b r (L.drop i)->
  DE E f103 (GT [R.s.av,CA 3 (evv R.ev) J0]) (aTH L i) (aTG r):=by
 have f:Z (pnv L)=Z L:=by simp
 intro m;induction m with
 | zero=>
  intro i r l a _;rw[Ae o_]at a;have a:r=R:=a;subst a;refine gV ?_;refine aF λh=>?_;refine bR hE 2 ?_;conv=>whnf
  refine To.permC hE [0,1,2,3,4,5,6,7,9] [8] (by rfl) ?_;conv=>whnf
  refine aLC ?_;refine aLC ?_;exact zW
 | succ m j=>
  intro i r l a d;have c:i<Z L:=o_;rw[Ac c]at a d;rw[Ap]at a;obtain⟨h1,g⟩:=k _ _ _ d;have get:=wX c;generalize L[i]=p at a d h1 g get;have next:=j (i+1) (bM r p) o_ a g
  rcases h1 with⟨e,hl⟩|hl|hl|hl
  .rw [e]at next
   exact tA
  .exact zqya21
  .exact zqya21
  .generalize bM r p=r2 at *
   refine gV ?_;refine aT λh=>?_
   repeat' first|refine pA ?_|refine⟨i,rfl,?_⟩|refine⟨_,get,?_⟩|refine .eff [] [0,1,2] _ _ rfl hl ?_|exact rfl|refine lA ?_ ?_|intro h
   exact To.part [2,4,12,13,14] [0,1,5,3] rfl rfl rfl next
def aNS(a:Rd->ba->Prop)(d:∀r p rest,a r (p::rest)->F4 r p/\a (bM r p) rest)(s:Sta)(h:StaSm' s)(L:ba)(b:Z L<=1000000)(hs:bj 161 [s.av] (CA 11 (pnv L) J0))(e:a ⟨s,[],U,0⟩ L):
  bj 103 [s.av] (GT [(L.foldl bM ⟨s,[],U,0⟩).s.av,CA 3 (evv (L.foldl bM ⟨s,[],U,0⟩).ev) J0]):=by
 have h1:=aF9 a d L b _ (Z L) 0 ⟨s,[],U,0⟩ o_ rfl e;have c:=aNV s h;rw[Ca]at h1;generalize L.foldl bM ⟨s,[],U,0⟩=R at *
 refine c_ f103 λ_=>?_
 repeat' first|refine pA ?_|refine .p c ?_|refine .p hs ?_|exact rfl|refine lA ?_ ?_|intro h
 refine To.begin 3 9 82 rfl rfl ?_;exact To.part [2,4,12,13,14] [3,4,2,1] rfl rfl rfl h1
def BW(run:a7):∀(ids:ax) (r:Rd),(ids.foldl (dU run) r).s.c=r.s.c/\(ids.foldl (dU run) r).s.now=r.s.now/\(ids.foldl (dU run) r).s.nxt=r.s.nxt/\(ids.foldl (dU run) r).s.hist=r.s.hist/\(ids.foldl (dU run) r).s.run=r.s.run/\(ids.foldl (dU run) r).head=r.head/\(ids.foldl (dU run) r).start=r.start/\Z (ids.foldl (dU run) r).s.pend=Z r.s.pend+Z ids/\Z (ids.foldl (dU run) r).ev=Z r.ev+Z ids
 | [],r=>⟨rfl,rfl,rfl,rfl,rfl,rfl,rfl,rfl,rfl⟩
 | id::ids,r=>by
  obtain⟨a,b,c,d,e,f,g,h,i⟩:=BW run ids (dU run r id);have h1:Z (dU run r id).s.pend=Z r.s.pend+1:=vK _ _;have j:Z (dU run r id).ev=Z r.ev+1:=by show Z (r.ev++[_])=_;simp
  rw[Ap];refine⟨a,b,c,d,e,f,g,?_,?_⟩
  .rw [h,h1,Al];omega
  .rw [i,j,Al];omega
structure LookPre(r:Rd)(p:Pn):Prop where
 c:r.s.c.sm
 run:Sm r.s.run
 pend:Z r.s.pend<=900000
 ev:Z r.ev<=900000
 pods:0<=p.g.pods/\p.g.pods<=16
 start:r.head=U->r.start=0
 cho:cL r.s.c r.s.run p.g=D->∀ids,fG r.s.c r.s.run p.g=X ids->ids≠[]/\Z ids<=100000/\∀id∈ids,0<=aO (bC id) r.s.run 0
def aHY(r:Rd)(p:Pn)(h:LookPre r p):F4 r p:=by
 have q:=h.pend;have f:=h.ev;rcases W0 r p h.c h.run o_ o_ h.pods with⟨e,i⟩|⟨e,i⟩
 .have t:(admR r p).2=false:=by rw[e]
  obtain⟨s,ev,head,start⟩:=r;cases head with
  | true=>
   have a:bM ⟨s,ev,O,start⟩ p=⟨s,ev,O,start⟩:=by unfold bM;rw[bt (by rw[t];decide),bu rfl]
   exact .inl ⟨a,aSv s ev start p i⟩
  | false=>
   have a:bM ⟨s,ev,U,start⟩ p=aHZ ⟨s,ev,U,start⟩ p (fG s.c s.run p.g):=by
    unfold bM
    grind
   have d:=aEP s.c h.c s.run h.run p.g h.pods;have b:=h.cho;dsimp only at b;cases k:fG s.c s.run p.g with
   | none=>
    rw[k]at d a;have hst:=aFM s.c h.c s.now s.run h.run p.g h.pods;have a:bM ⟨s,ev,U,start⟩ p=qV ⟨s,ev,U,start⟩ p (nR s.c s.now s.run p.g):=a;cases hs:nR s.c s.now s.run p.g with
    | none=>
     rw[hs]at hst a;have C:start=0:=h.start rfl;subst C;exact .inl ⟨a,aSu s ev p i d hst⟩
    | some n=>
     rw[hs]at hst a;have a:bM ⟨s,ev,U,start⟩ p=⟨s,ev++[⟨4,p.g.id,n⟩],O,n⟩:=a;refine .inr (.inr (.inl ?_))
     grind[aSt]
   | some ids=>
    rw[k]at d a;have m:cL s.c s.run p.g=none:=by
     have o:(CB ⟨s,ev,U,start⟩ p (cL s.c s.run p.g)).2=false:=t;cases F:cL s.c s.run p.g with
     | none=>rfl
     | some x=>rw[F]at o;have Be:O=false:=o;cases Be
    obtain⟨v,K,u⟩:=b m ids k;have a:bM ⟨s,ev,U,start⟩ p=(admR (gQ ⟨s,ev,U,start⟩ ids) p).1:=a;have I:=aIW ⟨s,ev,U,start⟩ s.run rfl h.run ids o_ v u (by dsimp only at q⊢;omega) (by dsimp only at f⊢;omega);obtain⟨w,_,_,_,J,_,_,G,y⟩:=BW s.run ids ⟨s,ev,U,start⟩;have l:(gQ ⟨s,ev,U,start⟩ ids).s.c=s.c:=w;have j:(gQ ⟨s,ev,U,start⟩ ids).s.run=aB s.run ids:=rfl;have A:Z (gQ ⟨s,ev,U,start⟩ ids).s.pend=Z s.pend+Z ids:=G;have H:Z (gQ ⟨s,ev,U,start⟩ ids).ev=Z ev+Z ids:=y;refine .inr (.inr (.inr ?_));rw[a];generalize gQ ⟨s,ev,U,start⟩ ids=R at *
    dsimp only at q f;rcases W0 R p (by rw[l];exact h.c) (by rw[j];exact jC h.run ids) o_ o_ h.pods with⟨B,z⟩|⟨B,z⟩
    .grind [H7]
    grind[H7]
 .have a:bM r p=(admR r p).1:=by unfold bM;rw[bu e]
  refine .inr (.inl ?_);rw[a];exact H8 r (admR r p).1 p i
abbrev r3O(r:Rd)(ge:Nat):ab:=Do 150 (rdC r (CA 14 (rav r.s.run) J0) ge)
abbrev r3S(r:Rd)(ge:Nat):aw:=[r3O r ge,evT ge]
def L4(l:ba)(a:Int)(hl:Z l<=1000000):bj 43 [CA 11 (pnv l) J0,ii a] (GT [CA 11 (pnv (dS l a)) J0,DA (!decide (fY a l<0))]):=by have h:=Q2.takeref_ok (l.map Pn.q) a (by simpa using hl);rw[<-aAT,rA,rA]at h;exact h
def SK(l:ba)(p:Pn)(hl:Z l<=1000000):bj 77 [CA 11 (pnv l) J0,p.av] (CA 11 (pnv (jO l p)) J0):=by have h:=Q2.putref_ok (l.map Pn.q) p.q (by simpa using hl);rw[<-YM,rA,rA]at h;exact h
def aQT{n a:Nat}(h:n<=1048576)(b:a<=1000):DB n a:=Aa (by simp only[maxLen];omega) (Cp (Eg h b) d_)
def L6(r:Rd)(p:Pn)(fl:Int)(hs:ax)(hp:Z r.s.pend<=1000000)(c:Z r.ev<=1000000)(d:Z r.s.run<=1000000):
  ar 129 [G2 0 0,p.av,ii fl,CA 1 (iv hs) J0] (r3S r 0) (Io (GT [])) (r3S (zY r p fl hs) 1):=by
 obtain⟨s,ev,head,start⟩:=r;have j:=L4 s.pend p.g.id hp;have b:Z (evv ev)<=1048576:=by simp;dsimp only at c;omega
 have a:Z (rav s.run)<=1048576:=by simp;dsimp only at d;omega
 have i:rav (s.run++[⟨p.g,p.seq,p.at',s.now,fl,hs⟩])=rav s.run++[Rn.av ⟨p.g,p.seq,p.at',s.now,fl,hs⟩]:=by simp
 have e:evv (ev++[⟨1,p.g.id,fl⟩])=evv ev++[Ev.av ⟨1,p.g.id,fl⟩]:=by simp
 unfold zY r3S r3O rdC;dsimp only;rw[i,e];generalize dS s.pend p.g.id=pq at *
 clear i e c d hp;refine eA (Er [] [21,39,49,50,51,52,64,65]) f129 2 λ_=>?_
 repeat' first|refine pA ?_|refine .p j ?_|refine Aa (aQT a d_) ?_|refine Aa (kA a d_) ?_|refine Aa (kA b d_) ?_|exact rfl|refine lA ?_ ?_|intro h
 refine⟨[],[0,1],⟨rfl,rfl⟩,rfl,rfl⟩
def TG(q:Rd)(x:Pn):Rd:=⟨{q.s with pend:=jO q.s.pend x},q.ev,q.head,q.start⟩
def E4(id:Int)(q:Rd)(x:Rn):Rd:=if bC id x=O then TG q x.pn else q
abbrev aPS(ids:ax)(i:Nat):au:=[(0,G2 0 0),(1,CA 1 (iv ids) J0),(4,ii i)]
abbrev aPR(R:Rd):Goal:=.full 2 (Io (GT [])) (r3S R 1)
def aSi(ids:ax)(y:Z ids<=1048576)(R:Rd)(run:a7)(hs:Sm run)(i:Nat)(id:Int)(get:(iv ids)[i]? =X (ii id))(Q:Rd)(v:Z Q.ev<=1000000)
  (next:To (Er [] [56,68,69]) f131 (aPR R) (BV f131 (aPS ids (i+1)) (r3S (kS Q ⟨2,id,0⟩) 1))) (g:Nat) (j:g=0\/g=1):∀(m k:Nat) (q:Rd),k+m=Z run->q.s.run=run->(run.drop k).foldl (E4 id) q=Q->Z q.s.pend+m<=1000000->
  To (Er [] [56,68,69]) f131 (aPR R) (G0 (stk f131 1) (aPS ids i++[(5,ii k)]) (r3S q g)):=by
 have z:i<Z ids:=by have:=(List.getElem?_eq_some_iff.1 get).1;simpa using this
 have p:Z (iv ids)=Z ids:=by simp
 intro m;induction m with
 | zero=>
  intro k q r b a _;rw[Ae o_]at a;have a:q=Q:=a;subst a;have f:Z (rav q.s.run)=k:=by rw[b];simp;omega
  have w:Z (evv q.ev)<=1048576:=by simp;omega
  have n:evv (q.ev++[⟨2,id,0⟩])=evv q.ev++[Ev.av ⟨2,id,0⟩]:=by simp
  unfold r3S r3O rdC kS at next
  dsimp only at next
  rw[n]at next
  have o:=hs.1;clear n b;rcases j with rfl|rfl
  all_goals
   exact tA
 | succ m d=>
  intro k q r b a hp;have c:k<Z run:=o_;rw[Ac c,Ap]at a;have t:(rav q.s.run)[k]? =X run[k].av:=by rw[b];exact cH c
  have f:Z (rav q.s.run)=Z run:=by rw[b];simp
  have o:=hs.1;generalize run[k]=x at a t;unfold E4 at a;cases e:bC id x with
  | true=>
   rw[bu e]at a;have u:=SK q.s.pend x.pn o_;have h:=d (k+1) (TG q x.pn) o_ b a (by show Z (jO _ _)+m<=_;rw[vK];omega);have l:x.pn=⟨x.g,x.seq,x.at'⟩:=rfl;unfold r3S r3O rdC TG at h;dsimp only at h;generalize jO q.s.pend x.pn=pq at *
   rw[l]at u;unfold bC at e;clear d next a
   rcases j with rfl|rfl
   all_goals
    exact tA
  | false=>
   rw[bt (by rw[e];decide)]at a;have h:=d (k+1) q o_ b a o_;unfold bC at e;clear d next a
   rcases j with rfl|rfl
   all_goals
    exact tA
def ME(id:Int):∀(l:a7) (q:Rd),(∀x∈l,bC id x=U)->l.foldl (E4 id) q=q
 | [],_,_=>rfl
 | x::l,q,h=>by
  have e:E4 id q x=q:=by unfold E4;rw[bt (by rw[h x (Aw ..)];decide)]
  rw[Ap,e];exact ME id l q λy a=>h y (Bb _ a)
def HY(id:Int):∀(l:a7) (i:Nat) (q:Rd),(l.map λx=>x.g.id).Nodup->0<=aO (bC id) l i->l.foldl (E4 id) q=TG q (aH l (aO (bC id) l i-i).toNat).pn
 | [],i,q,_,h=>by have h:(0:Int)<= -1:=h;omega
 | x::l,i,q,hn,h=>by
  rw[Bf,Ci]at hn;rw[Ap];unfold aO at h⊢;by_cases a:bC id x=O
  .rw [bu a]at h⊢;have e:((i:Int)-i).toNat=0:=o_;rw[e];have b:E4 id q x=TG q x.pn:=by unfold E4;rw[bu a]
   rw[b];refine ME id l _ λy d=>?_;unfold bC at a⊢;have a:x.g.id=id:=by simpa using a
   have:y.g.id≠x.g.id:=λc=>hn.1 (c▸Cf d);simp;omega
  .rw [bt a]at h⊢;have b:E4 id q x=q:=by unfold E4;rw[bt a]
   rw[b,HY id l (i+1) q hn.2 h];rcases oK (bC id) l (i+1)with f|f
   .omega
   .have e:(aO (bC id) l (i+1)-i).toNat=(aO (bC id) l (i+1)-((i+1:Nat):Int)).toNat+1:=o_;rw[e];rfl
def aQY(run:a7)(a:(run.map λx=>x.g.id).Nodup)(q:Rd)(id:Int)(h:0<=aO (bC id) run 0):kS (run.foldl (E4 id) q) ⟨2,id,0⟩=dU run q id:=by rw[HY id run 0 q a h];have e:(aO (bC id) run 0-((0:Nat):Int)).toNat=(aO (bC id) run 0).toNat:=o_;rw[e];rfl
def aPX(run:a7)(hs:Sm run)(j:(run.map λx=>x.g.id).Nodup)(ids:ax)(k:Z ids<=1048576)(f:∀id∈ids,0<=aO (bC id) run 0)(R Q:Rd)(e:R=⟨{Q.s with run:=aB run ids},Q.ev,Q.head,Q.start⟩):∀(m i:Nat) (q:Rd) (g:Nat),i+m=Z ids->(g=1\/g=0/\0<m)->q.s.run=run->(ids.drop i).foldl (dU run) q=Q->Z q.s.pend+m+Z run<=1000000->Z q.ev+m<=1000000->
  To (Er [] [56,68,69]) f131 (aPR R) (BV f131 (aPS ids i) (r3S q g)):=by
 have r:Z (iv ids)=Z ids:=by simp
 intro m;induction m with
 | zero=>
  intro i q g u n d a hp o;rw[Ae o_]at a;have a:q=Q:=a;subst a;have w:=pN q.s.run (by rw[d];exact hs) ids k;rw[<-d]at e;generalize aB q.s.run ids=rn at *
  subst e;obtain rfl:g=1:=o_;exact tA
 | succ m h=>
  intro i q g u n d a hp o;have c:i<Z ids:=o_;rw[Ac c,Ap]at a;have b:=f _ (Aq c);have get:(iv ids)[i]? =X (ii ids[i]):=by simp[c]
  generalize ids[i]=id at a b get;have l:=aQY run j q id b;have v:Z (dU run q id).s.pend=Z q.s.pend+1:=vK _ _;have y:Z (dU run q id).ev=Z q.ev+1:=by show Z (q.ev++[_])=_;simp
  have next:=h (i+1) (dU run q id) 1 o_ (.inl rfl) d a o_ o_
  rw[<-l]at next
  have t:Z (run.foldl (E4 id) q).ev=Z q.ev:=by rw[HY id run 0 q j b];rfl
  have p:=aSi ids k R run hs i id get _ o_ next g o_ (Z run) 0 q o_ d rfl o_
  clear next h l a
  rcases n with rfl|⟨rfl,_⟩
  all_goals
   exact tA
def aDA(r:Rd)(ids:ax)(hs:Sm r.s.run)(e:(r.s.run.map λx=>x.g.id).Nodup)(d:Z ids<=1048576)(a:ids≠[])(b:∀id∈ids,0<=aO (bC id) r.s.run 0)(hp:Z r.s.pend+Z ids+Z r.s.run<=1000000)(c:Z r.ev+Z ids<=1000000):
  ar 131 [G2 0 0,CA 1 (iv ids) J0] (r3S r 0) (Io (GT [])) (r3S (gQ r ids) 1):=by
 have h:=aPX r.s.run hs e ids d b (gQ r ids) _ rfl (Z ids) 0 r 0 o_ (.inr ⟨rfl,Dd.2 a⟩) rfl rfl hp c;generalize gQ r ids=R at *
 refine eA (Er [] [56,68,69]) f131 2 λ_=>?_;exact zW
abbrev KP(r:Rd)(p:Pn)(As:aw):Prop:=ar 83 [G2 0 0,p.av] (r3S r 0) (Io (GT [])) As
abbrev D6(c:Con)(run:a7)(p:Pn)(Q:Option (Int×ax)):Prop:=bj 119 [c.av,CA 14 (rav run) J0,p.g.av] (fdA Q)
abbrev aOx(s:Sta)(st:Int)(p:Pn)(b:Bool):Prop:=bj 128 [ii s.now,p.g.av,ii st] (DA b)
abbrev aG1(s:Sta)(p:Pn)(Q:Option ax):Prop:=bj 130 [s.c.av,CA 14 (rav s.run) J0,p.g.av] (chR Q)
abbrev aOw(s:Sta)(p:Pn)(Q:Option Int):Prop:=bj 132 [s.c.av,ii s.now,CA 14 (rav s.run) J0,p.g.av] (stA Q)
abbrev aG6(r:Rd)(p:Pn)(fl:Int)(hs:ax)(R:Rd):Prop:=ar 129 [G2 0 0,p.av,ii fl,CA 1 (iv hs) J0] (r3S r 0) (Io (GT [])) (r3S R 1)
abbrev aTI(r:Rd)(ids:ax)(R:Rd):Prop:=ar 131 [G2 0 0,CA 1 (iv ids) J0] (r3S r 0) (Io (GT [])) (r3S R 1)
def aTU(s:Sta)(ev:bh)(st:Int)(p:Pn)(fl:Int)(hs:ax)(R:Rd)(h1:D6 s.c s.run p (X (fl,hs)))(a:aG6 ⟨s,ev,U,st⟩ p fl hs R):KP ⟨s,ev,U,st⟩ p (r3S R 1):=by exact zqya0
def aTT(s:Sta)(ev:bh)(st:Int)(p:Pn)(fl:Int)(hs:ax)(R:Rd)(h1:D6 s.c s.run p (X (fl,hs)))(hm:aOx s st p O)(a:aG6 ⟨s,ev,O,st⟩ p fl hs R):KP ⟨s,ev,O,st⟩ p (r3S R 1):=by exact zqya0
def aTR(s:Sta)(ev:bh)(st:Int)(p:Pn)(x:Int×ax)(h1:D6 s.c s.run p (X x))(hm:aOx s st p U):KP ⟨s,ev,O,st⟩ p (r3S ⟨s,ev,O,st⟩ 0):=by exact zqya0
def aTS(s:Sta)(ev:bh)(st:Int)(p:Pn)(h1:D6 s.c s.run p D):KP ⟨s,ev,O,st⟩ p (r3S ⟨s,ev,O,st⟩ 0):=by exact zqya0
def aTQ(s:Sta)(ev:bh)(st:Int)(p:Pn)(h1:D6 s.c s.run p D)(a:aG1 s p D)(h3:aOw s p D):KP ⟨s,ev,U,st⟩ p (r3S ⟨s,ev,U,st⟩ 0):=by exact zqya0
def aTP(s:Sta)(ev:bh)(st:Int)(p:Pn)(n:Int)(d:Z ev<=1000000)(h1:D6 s.c s.run p D)(e:aG1 s p D)(h3:aOw s p (X n)):KP ⟨s,ev,U,st⟩ p (r3S ⟨s,ev++[⟨4,p.g.id,n⟩],O,n⟩ 1):=by
 have b:Z (evv ev)<=1048576:=by simp;omega
 have a:evv (ev++[⟨4,p.g.id,n⟩])=evv ev++[Ev.av ⟨4,p.g.id,n⟩]:=by simp
 unfold KP r3S r3O rdC;dsimp only;rw[a];exact zqya0
def aTO(s:Sta)(ev:bh)(st:Int)(p:Pn)(ids:ax)(R a:Rd)(fl:Int)(hs:ax)(h1:D6 s.c s.run p D)(d:aG1 s p (X ids))(h3:aTI ⟨s,ev,U,st⟩ ids R)(b:D6 s.c R.s.run p (X (fl,hs)))(e:aG6 R p fl hs a):KP ⟨s,ev,U,st⟩ p (r3S a 1):=by exact zqya0
def CT(l:ba)(p:Pn):(jO l p).Perm (p::l):=by
 unfold jO
 grind[Bn,Ag,Gb]
def IQ(a:Int):∀(l:ba) (i:Nat),((∀p∈l,p.g.id≠a)/\Q2.idx (λx=>x.id==a) (l.map Pn.q) i= -1)\/∃A p B,l=A++p::B/\p.g.id=a/\Q2.idx (λx=>x.id==a) (l.map Pn.q) i=((i+Z A:Nat):Int)
 | [],i=>.inl ⟨λp hp=>(by cases hp),rfl⟩
 | p::l,i=>by
  rw[Bf];unfold Q2.idx;by_cases h:p.g.id=a
  .right;refine⟨[],p,l,rfl,h,?_⟩;have e:(p.q.id==a)=true:=by show(p.g.id==a)=O;rw[h];simp
   simp[e]
  .have e:(p.q.id==a)=false:=by show(p.g.id==a)=U;simpa using h
   simp only[e];rcases IQ a l (i+1)with⟨h1,b⟩|⟨A,x,B,h1,b,h3⟩
   .grind
   grind[Al]
theorem FU(a:Int)(l:ba):((∀p∈l,p.g.id≠a)/\fY a l= -1)\/∃A p B,l=A++p::B/\p.g.id=a/\fY a l=(Z A:Int):=by have h:=IQ a l 0;simp only[Nat.zero_add]at h;exact h
def GP{l:ba}{p:Pn}(hp:p∈l)(c:(l.map λx=>x.g.id).Nodup):(p::dS l p.g.id).Perm l/\∀q∈l,q≠p->q∈dS l p.g.id:=by
 rcases FU p.g.id l with⟨h,_⟩|⟨A,x,B,h1,b,h3⟩
 .exact bv rfl (h p hp)
 .have a:x=p:=by grind[Ci,Aw]
  subst a;have e:dS l x.g.id=A++B:=by
   unfold dS;rw[bt o_,h3,h1];show(A++x::B).eraseIdx (Z A)=_
   grind
  grind[Di]
def I0{id:Int}(l:a7):∀(i:Nat) (x:Rn),x∈l->x.g.id=id->0<=aO (bC id) l i:=by
 induction l with
 | nil=>intro i x a;cases a
 | cons y l c=>
  intro i x a h;unfold aO;by_cases b:bC id y=O
  .rw [bu b];omega
  .rw [bt b];rcases Az.1 a with e|a
   .exact bv (by unfold bC;rw[<-e];simpa using h) b
   .exact c (i+1) x a h
def aEk{id:Int}(l:a7):∀(i:Nat),0<=aO (bC id) l i->aH l (aO (bC id) l i-i).toNat∈l/\(aH l (aO (bC id) l i-i).toNat).g.id=id:=by
 induction l with
 | nil=>intro i h;have h:(0:Int)<= -1:=h;omega
 | cons y l b=>
  intro i h;unfold aO at h⊢;by_cases a:bC id y=O
  .rw [bu a];have e:((i:Int)-i).toNat=0:=o_;rw[e];unfold bC at a;exact⟨Aw ..,(by simpa using a:y.g.id=id)⟩
  .rw [bt a]at h⊢;obtain⟨h1,c⟩:=b (i+1) h;rcases oK (bC id) l (i+1)with h3|h3
   .omega
   .have e:(aO (bC id) l (i+1)-i).toNat=(aO (bC id) l (i+1)-((i+1:Nat):Int)).toNat+1:=o_;rw[e];exact⟨Bb _ h1,c⟩
def xOf(run:a7)(id:Int):Rn:=aH run (aO (bC id) run 0).toNat
theorem F9{run:a7}{id:Int}(h:0<=aO (bC id) run 0):xOf run id∈run/\(xOf run id).g.id=id:=by have a:=aEk run 0 h;have e:(aO (bC id) run 0-((0:Nat):Int)).toNat=(aO (bC id) run 0).toNat:=o_;rw[e]at a;exact a
def NA(run:a7):∀(ids:ax) (r:Rd),(ids.foldl (dU run) r).s.pend.Perm (ids.map (λid=>(xOf run id).pn)++r.s.pend)
 | [],r=>Fj _
 | id::ids,r=>by rw[Ap,Bf];refine(NA run ids (dU run r id)).trans ?_;have h:(dU run r id).s.pend=jO r.s.pend (xOf run id).pn:=rfl;rw[h];refine(Ds _ (CT _ _)).trans ?_;exact Gb
def TY{l:a7}(h:tX l):(l.map λx=>x.g.id).Nodup:=by unfold Mx;rw[Gu];exact Jx (λh=>h.1) h
def TT{run:a7}(b:tX run){ids:ax}(f:ids.Nodup)(c:∀id∈ids,0<=aO (bC id) run 0):(ids.map (xOf run)++aB run ids).Perm run:=by
 have a:run.Nodup:=Jx (λh e=>h.1 (by rw[e])) b;have h1:(ids.map (xOf run)).Nodup:=by grind[List.Pairwise.imp_of_mem,F9]
 have d:(aB run ids).Nodup:=a.sublist List.filter_sublist
 grind[List.perm_ext_iff_of_nodup,Cr,pK,F9,Di,aLT,Cy]
structure Base(s:Sta):Prop where
 c:s.c.sm
 ids:((s.pend++s.run.map Rn.pn).map λx=>x.g.id).Nodup
 seqs:((s.pend++s.run.map Rn.pn).map λx=>x.seq).Nodup
 few:Z (s.pend++s.run.map Rn.pn)<=39
 gang:∀x∈s.pend++s.run.map Rn.pn,(0<=x.g.pods/\x.g.pods<=16)/\aS x.g.need=O/\x.g.id≠0
structure aj(s:Sta)(r:Rd)(rest:ba):Prop where
 c:r.s.c=s.c
 now:r.s.now=s.now
 nxt:r.s.nxt=s.nxt
 hist:r.s.hist=s.hist
 perm:(r.s.pend++r.s.run.map Rn.pn).Perm (s.pend++s.run.map Rn.pn)
 sub:∀p∈rest,p∈r.s.pend
 rn:rest.Nodup
 start:r.head=U->r.start=0
 hs:∀x∈r.s.run,Z x.hs<=1048576
def aj.few{s:Sta}{r:Rd}{rest:ba}(b:Base s)(h:aj s r rest):Z r.s.pend+Z r.s.run<=39:=by have:=h.perm.length_eq;have a:=b.few;simp at this a;omega
def aj.sm{s:Sta}{r:Rd}{rest:ba}(b:Base s)(h:aj s r rest):Sm r.s.run:=⟨by have:=h.few b;omega,h.hs⟩
def aj.once{s:Sta}{r:Rd}{rest:ba}(b:Base s)(h:aj s r rest):tX r.s.run:=by have h1:=((h.perm.map λx=>x.g.id).nodup_iff).2 b.ids;have a:=((h.perm.map λx=>x.seq).nodup_iff).2 b.seqs;rw[Bi,Cr,Dz]at h1 a;have h1:=h1.2.1;have a:=a.2.1;unfold Mx at h1 a;rw[Gu]at h1 a;exact h1.and a
def aj.pids{s:Sta}{r:Rd}{rest:ba}(b:Base s)(h:aj s r rest):(r.s.pend.map λx=>x.g.id).Nodup:=by have h1:=((h.perm.map λx=>x.g.id).nodup_iff).2 b.ids;rw[Bi,Cr]at h1;exact h1.1
def aj.gangP{s:Sta}{r:Rd}{rest:ba}(b:Base s)(h:aj s r rest){p:Pn}(hp:p∈r.s.pend):(0<=p.g.pods/\p.g.pods<=16)/\aS p.g.need=O/\p.g.id≠0:=
 b.gang p (h.perm.mem_iff.1 (Di _ hp))
def aj.gangR{s:Sta}{r:Rd}{rest:ba}(b:Base s)(h:aj s r rest){x:Rn}(a:x∈r.s.run):(0<=x.g.pods/\x.g.pods<=16)/\aS x.g.need=O/\x.g.id≠0:=
 b.gang x.pn (h.perm.mem_iff.1 (Cy _ (Cf a)))
def aj.skip{s:Sta}{r:Rd}{p:Pn}{rest:ba}(h:aj s r (p::rest)):aj s r rest:=
 {h with sub:=λq a=>h.sub q (Bb _ a),rn:=(Ci.1 h.rn).2}
def aj.adm{s:Sta}{r:Rd}{p:Pn}{rest:ba}(b:Base s)(h:aj s r (p::rest)){fl:Int}{hs:ax}(hl:Z hs<=1048576):aj s (zY r p fl hs) rest where
 c:=h.c
 now:=h.now
 nxt:=h.nxt
 hist:=h.hist
 perm:=by
  have hp:=(GP (h.sub p (Aw ..)) (h.pids b)).1;show(dS r.s.pend p.g.id++(r.s.run++[_]).map Rn.pn).Perm _;refine Nb ?_ h.perm;rw[Bi,<-Ag];refine(Dx (l₂:=[p])).trans ?_
  grind[Ag,Dv]
 sub q hq:=(GP (h.sub p (Aw ..)) (h.pids b)).2 q (h.sub q (Bb _ hq)) λe=>(Ci.1 h.rn).1 (e▸hq)
 rn:=(Ci.1 h.rn).2
 start:=h.start
 hs x hx:=by
  rcases Cc.1 hx with hx|hx
  .exact h.hs x hx
  .rw [Dr.1 hx];exact hl
def aj.evic{s:Sta}{r:Rd}{rest:ba}(b:Base s)(h:aj s r rest){ids:ax}(g:ids.Nodup)(d:∀id∈ids,0<=aO (bC id) r.s.run 0):aj s (gQ r ids) rest:=by
 obtain⟨i,o,k,m,_,l,j,_,_⟩:=BW r.s.run ids r;have hp:=NA r.s.run ids r;refine⟨i.trans h.c,o.trans h.now,k.trans h.nxt,m.trans h.hist,?_,λp a=>hp.mem_iff.2 (Cy _ (h.sub p a)),h.rn,λe=>?_,λx n=>h.hs x (Fp.1 n).1⟩
 .show ((ids.foldl (dU r.s.run) r).s.pend++(aB r.s.run ids).map Rn.pn).Perm _;refine Nb ?_ h.perm;refine(Dv _ hp).trans ?_;have f:=(TT (h.once b) g d).map Rn.pn;rw[Bi,Dz]at f;refine(Dv _ Dx).trans ?_;rw[Ag];exact Ds _ f
 .show (ids.foldl (dU r.s.run) r).start=0;rw[j];refine h.start ?_;rw[<-l];exact e
def xS{s:Sta}{r:Rd}{rest:ba}(b:Base s)(h:aj s r rest){g:Gan}(f:cL r.s.c r.s.run g=D){ids:ax}(d:fG r.s.c r.s.run g=X ids):
  ids≠[]/\ids.Nodup/\Z ids<=39/\(∀id∈ids,0<=aO (bC id) r.s.run 0)/\∃x,cL r.s.c (aB r.s.run ids) g=X x:=by
 obtain⟨_,h1,i,h3⟩:=EK d;have hl:=aN1 (h.once b) d;have a:=h.few b;refine⟨λe=>?_,h1,by omega,λid hid=>?_,Option.isSome_iff_exists.1 h3⟩
 .subst e;unfold pG at h3;rw[fE,f]at h3;cases h3
 .obtain ⟨_,x,j,e,_⟩:=i id hid;exact I0 _ 0 x j e
def aMm{s:Sta}{r:Rd}{p:Pn}{rest:ba}(b:Base s)(h:aj s r (p::rest))(he:Z r.ev<=900000):LookPre r p where
 c:=by rw[h.c];exact b.c
 run:=h.sm b
 pend:=by have:=h.few b;omega
 ev:=he
 pods:=(h.gangP b (h.sub p (Aw ..))).1
 start:=h.start
 cho hf ids hq:=by obtain⟨a1,_,a3,a4,_⟩:=xS b h hf hq;exact⟨a1,by omega,a4⟩
def aD2{s:Sta}{r:Rd}{p:Pn}{rest:ba}(b:Base s)(h:aj s r (p::rest)):aj s (bM r p) rest/\Z (bM r p).ev<=Z r.ev+40:=by
 have l:=(h.gangP b (h.sub p (Aw ..))).1;have a:=h.skip;have f:∀{q:Rd},aj s q (p::rest)->aj s (admR q p).1 rest/\Z (admR q p).1.ev<=Z q.ev+1:=λ{q} d=>by
  unfold admR;cases j:cL q.s.c q.s.run p.g with
  | none=>exact⟨d.skip,Jq _⟩
  | some x=>
   have v:=IY l j;obtain⟨fl,hs⟩:=x;unfold CB;dsimp only;split
   .exact ⟨d.skip,Jq _⟩
   .exact ⟨d.adm b v,by show Z (q.ev++[_])<=_;simp⟩
 unfold bM;split
 .exact ⟨(f h).1,by have:=(f h).2;omega⟩
 .rename_i u;split
  .exact ⟨a,by omega⟩
  .rename_i o;have i:r.head=false:=by cases d:r.head with|false=>rfl|true=>exact bv d o
   have k:cL r.s.c r.s.run p.g=none:=by
    cases j:cL r.s.c r.s.run p.g with
    | none=>rfl
    | some x=>
     obtain⟨fl,hs⟩:=x;refine bv ?_ u;unfold admR;rw[j];unfold CB;dsimp only;rw[i];rfl
   cases d:fG r.s.c r.s.run p.g with
   | none=>
    show aj s (qV r p _) rest/\Z (qV r p _).ev<=_;cases nR r.s.c r.s.now r.s.run p.g with
    | none=>exact⟨a,by show Z r.ev<=_;omega⟩
    | some n=>exact⟨⟨a.c,a.now,a.nxt,a.hist,a.perm,a.sub,a.rn,λe=>(by cases e),a.hs⟩,by show Z (r.ev++[_])<=_;simp⟩
   | some ids=>
    obtain⟨_,t,y,w,_⟩:=xS b h k d;obtain⟨m,A⟩:=f (h.evic b t w);refine⟨m,?_⟩;have z:Z (gQ r ids).ev=Z r.ev+Z ids:=(BW r.s.run ids r).2.2.2.2.2.2.2.2;show Z (admR (gQ r ids) p).1.ev<=_;omega
def aAs(r:Rd)(p:Pn):Prop:=(bM r p=r/\KP r p (r3S r 0))\/KP r p (r3S (bM r p) 1)
def aLS{s:Sta}{r:Rd}{p:Pn}{rest:ba}(b:Base s)(h:aj s r (p::rest))(S:Z r.ev<=900000):aAs r p/\aj s (bM r p) rest/\Z (bM r p).ev<=Z r.ev+40:=by
 obtain⟨A,J,g3⟩:=h.gangP b (h.sub p (Aw ..));have Be:=h.few b;have L:r.s.c.sm:=by rw[h.c];exact b.c
 have o:=nX r.s.c L r.s.run (h.sm b) p.g A J;have hm:=aLj r.s.now p.g r.start;cases v:cL r.s.c r.s.run p.g with
 | some x=>
  rw[v]at o;have z:=IY A v;have m:=L6 r p x.1 x.2 o_ o_ o_;have k:=h.adm b (fl:=x.1) z;have q:Z (zY r p x.1 x.2).ev=Z r.ev+1:=by show Z (r.ev++[_])=_;simp
  obtain⟨d,ev,head,start⟩:=r;dsimp only at v hm o;have B:admR ⟨d,ev,head,start⟩ p=CB ⟨d,ev,head,start⟩ p (X x):=by unfold admR;rw[v]
  cases head with
  | false=>
   have i:bM ⟨d,ev,U,start⟩ p=zY ⟨d,ev,U,start⟩ p x.1 x.2:=by unfold bM;rw[B];rfl
   rw[i];refine⟨.inr ?_,k,by rw[q];exact Nat.add_le_add_left d_ _⟩;rw[i];exact aTU d ev start p x.1 x.2 _ o m
  | true=>
   cases K:bmB d.now p.g start with
   | true=>
    have i:bM ⟨d,ev,O,start⟩ p=zY ⟨d,ev,O,start⟩ p x.1 x.2:=by exact zqya19
    rw[K]at hm;rw[i];refine⟨.inr ?_,k,by rw[q];exact Nat.add_le_add_left d_ _⟩;rw[i];exact aTT d ev start p x.1 x.2 _ o hm m
   | false=>
    have i:bM ⟨d,ev,O,start⟩ p=⟨d,ev,O,start⟩:=by exact zqya19
    rw[K]at hm;rw[i];exact⟨.inl ⟨i,aTR d ev start p x o hm⟩,h.skip,Iy _ _⟩
 | none=>
  rw[v]at o;have M:=λids=>xS b h (g:=p.g) v (ids:=ids);have l:=λR=>SZ r.s.c L r.s.run (h.sm b) o_ (h.once b) (λx C=>(h.gangR b C).2.2) p.g A J R;have j:=S7 r.s.c L r.s.now r.s.run (h.sm b) p.g A J;have G:=λids=>aDA r ids (h.sm b) (TY (h.once b));have F:=λids (a:ids.Nodup)=>h.evic b (ids:=ids) a;have f:=h.skip;have H:Z r.s.pend+Z r.s.run<=39:=Be;obtain⟨d,ev,head,start⟩:=r;dsimp only at v hm o H S;have B:admR ⟨d,ev,head,start⟩ p=(⟨d,ev,head,start⟩,U):=by unfold admR;rw[v];rfl
  cases head with
  | true=>
   have i:bM ⟨d,ev,O,start⟩ p=⟨d,ev,O,start⟩:=by unfold bM;rw[B];rfl
   rw[i];exact⟨.inl ⟨i,aTS d ev start p o⟩,f,Iy _ _⟩
  | false=>
   have i:bM ⟨d,ev,U,start⟩ p=aHZ ⟨d,ev,U,start⟩ p (fG d.c d.run p.g):=by unfold bM;rw[B];rfl
   cases I:fG d.c d.run p.g with
   | none=>
    have t:=l D I;rw[I]at i;have i:bM ⟨d,ev,U,start⟩ p=qV ⟨d,ev,U,start⟩ p (nR d.c d.now d.run p.g):=i;dsimp only at j;cases hs:nR d.c d.now d.run p.g with
    | none=>
     rw[hs]at j i;have i:bM ⟨d,ev,U,start⟩ p=⟨d,ev,U,start⟩:=i;rw[i];exact⟨.inl ⟨i,aTQ d ev start p o t j⟩,f,Iy _ _⟩
    | some n=>
     rw[hs]at j i;have i:bM ⟨d,ev,U,start⟩ p=⟨d,ev++[⟨4,p.g.id,n⟩],O,n⟩:=i;rw[i];refine⟨.inr ?_,⟨f.c,f.now,f.nxt,f.hist,f.perm,f.sub,f.rn,λe=>(by cases e),f.hs⟩,by simp⟩;rw[i];exact aTP d ev start p n o_ o t j
   | some ids=>
    have t:=l (X ids) I;rw[I]at i;obtain⟨T,At,a3,Q,x,C⟩:=M ids I;have Y:=G ids o_ T Q (by dsimp only;omega) (by dsimp only;omega);have k:=F ids At Q;have y:=nX d.c L (aB d.run ids) (jC (h.sm b) ids) p.g A J;dsimp only at C;rw[C]at y;have z:=IY A C;obtain⟨V,_,_,_,f5,Am,_,f8,W⟩:=BW d.run ids ⟨d,ev,U,start⟩;have As:(gQ ⟨d,ev,U,start⟩ ids).s.c=d.c:=V;have w:(gQ ⟨d,ev,U,start⟩ ids).s.run=aB d.run ids:=rfl;have An:Z (gQ ⟨d,ev,U,start⟩ ids).s.pend=Z d.pend+Z ids:=f8;have P:Z (gQ ⟨d,ev,U,start⟩ ids).ev=Z ev+Z ids:=W;have N:(gQ ⟨d,ev,U,start⟩ ids).head=false:=Am;have hR6:Z (aB d.run ids)<=Z d.run:=List.length_filter_le _ _;have i:bM ⟨d,ev,U,start⟩ p=(admR (gQ ⟨d,ev,U,start⟩ ids) p).1:=i;generalize gQ ⟨d,ev,U,start⟩ ids=R at *
    have e2:(admR R p).1=zY R p x.1 x.2:=by unfold admR;rw[As,w,C];unfold CB;dsimp only;rw[N];rfl
    rw[e2]at i;have m:=L6 R p x.1 x.2 o_ o_ (by rw[w];omega);have u:=k.adm b (fl:=x.1) z;have q:Z (zY R p x.1 x.2).ev=Z R.ev+1:=by show Z (R.ev++[_])=_;simp
    rw[i];refine⟨.inr ?_,u,by rw[q,P];show Z ev+Z ids+1<=Z ev+40;omega⟩;rw[i];rw[<-w]at y;exact aTO d ev start p ids R _ x.1 x.2 o t Y y m
def FA(s:Sta)(r:Rd)(rest:ba):Prop:=aj s r rest/\Z r.ev+100*Z rest<=900000
def CO{s:Sta}(b:Base s)(r:Rd)(p:Pn)(rest:ba)(h:FA s r (p::rest)):FA s (bM r p) rest:=by have a:=h.2;rw[Al]at a;obtain⟨c,h3⟩:=aD2 b h.1;exact⟨c,by omega⟩
def aDx{s:Sta}(b:Base s)(r:Rd)(p:Pn)(rest:ba)(h:FA s r (p::rest)):F4 r p/\FA s (bM r p) rest:=by have a:=h.2;rw[Al]at a;exact⟨aHY r p (aMm b h.1 o_),CO b r p rest h⟩
def aGA{s:Sta}(b:Base s)(r:Rd)(p:Pn)(rest:ba)(h:FA s r (p::rest)):aAs r p/\FA s (bM r p) rest:=by have a:=h.2;rw[Al]at a;obtain⟨h1,c,h3⟩:=aLS b h.1 o_;exact⟨h1,c,by omega⟩
structure RunOK(s:Sta):Prop where
 base:Base s
 sm:StaSm' s
 ord:OrdOK s
 at':pJ s.pend
 tot:Tot (ltP s) s.pend
def RunOK.start{s:Sta}(h:RunOK s):FA s ⟨s,[],U,0⟩ (sP s):=by
 have hp:(sP s).Perm s.pend:=fN _ _;have c:s.pend.Nodup:=by have:=h.base.ids;rw[Bi,Cr]at this;have:=this.1;unfold Mx at this;rw[Gu]at this;exact Jx (λh e=>h (by rw[e])) this
 have hl:=h.base.few;rw[Ah]at hl;have a:=hp.length_eq;refine⟨⟨rfl,rfl,rfl,rfl,Fj _,λp b=>hp.mem_iff.1 b,hp.symm.nodup c,λ_=>rfl,h.sm.run.2⟩,?_⟩;show 0+_<=_;omega
def mV(s:Sta):Rd:=(sP s).foldl bM ⟨s,[],U,0⟩
def A4{s:Sta}(b:Base s):∀(L:ba) (r:Rd),FA s r L->FA s (L.foldl bM r) []
 | [],_,h=>h
 | p::L,r,h=>A4 b L (bM r p) (CO b r p L h)
def RunOK.few{s:Sta}(h:RunOK s):Z s.pend<40:=by have:=h.base.few;rw[Ah]at this;omega
def aK3(s:Sta)(h:RunOK s):bj 103 [s.av] (GT [(mV s).s.av,CA 3 (evv (mV s).ev) J0]):=by have a:=h.few;have hl:Z (sP s)=Z s.pend:=(fN _ _).length_eq;exact aNS (FA s) (aDx h.base) s h.sm (sP s) o_ (aHu s h.ord a h.at' h.tot) h.start
abbrev aR8(L:ba)(i:Nat):au:=[(2,G2 2 0),(4,G2 0 0),(5,CA 11 (pnv L) J0),(6,ii i)]
abbrev aR7(r:Rd):aw:=[r3O r 0,evT 0,LB]
def aDl(b:Rd->ba->Prop)(k:∀r p rest,b r (p::rest)->aAs r p/\b (bM r p) rest)(L:ba)(n:Z L<=1000000)(R:Rd):∀(m i:Nat) (r:Rd),i+m=Z L->(L.drop i).foldl bM r=R->b r (L.drop i)->
  DE E f39 (GT [R.s.av,CA 3 (evv R.ev) J0]) (aR8 L i) (aR7 r):=by
 have f:Z (pnv L)=Z L:=by simp
 intro m;induction m with
 | zero=>
  intro i r l a _;rw[Ae o_]at a;have a:r=R:=a;subst a;refine gV ?_;refine aF λh=>?_;refine bR hE 2 ?_;conv=>whnf
  refine To.permC hE [0,1,2,3,4,5,6,7,9] [8] (by rfl) ?_;conv=>whnf
  refine aLC ?_;conv=>whnf
  refine aLC ?_;exact zW
 | succ m j=>
  intro i r l a d;have c:i<Z L:=o_;rw[Ac c]at a d;rw[Ap]at a;obtain⟨h1,g⟩:=k _ _ _ d;have get:=wX c;generalize L[i]=p at a d h1 g get;have next:=j (i+1) (bM r p) o_ a g
  rcases h1 with⟨e,hl⟩|hl
  .rw [e]at next
   exact tA
  .exact zqya21
def aK7(s:Sta)(h:RunOK s):bj 39 [s.av] (GT [(mV s).s.av,CA 3 (evv (mV s).ev) J0]):=by
 have a:=h.few;have hl:Z (sP s)=Z s.pend:=(fN _ _).length_eq;have h1:=aDl (FA s) (aGA h.base) (sP s) o_ _ (Z (sP s)) 0 ⟨s,[],U,0⟩ o_ rfl h.start;have hs:=aGe s h.ord o_ h.at';rw[Ca]at h1;have e:(sP s).foldl bM ⟨s,[],U,0⟩=mV s:=rfl;rw[e]at h1;generalize mV s=R at *
 generalize sP s=L at *
 refine c_ f39 λ_=>?_
 repeat' first|refine pA ?_|refine .p hs ?_|exact rfl|refine lA ?_ ?_|intro h
 refine To.begin 2 9 82 rfl rfl ?_;exact To.part [2,4,5,6] [2,3,1] rfl rfl rfl h1
def dT(s:Sta)(g:Gan):Sta×Int:=
 if dZ s.c g≠0 then(s,dZ s.c g)else
 if 0<=fY g.id s.pend\/0<=aO (bC g.id) s.run 0 then(s,5)else
 if(cL s.c [] g).isNone=O then(s,6)else
 if 32<=Z s.pend+Z s.run then(s,8)else
 ({s with pend:=jO s.pend ⟨g,s.nxt,s.now⟩,nxt:=s.nxt+1},0)
def mH(l:a7)(t:Int):bh:=(l.filter λx=>decide (dQ x<=t)).map λx=>⟨3,x.g.id,0⟩
def iR(s:Sta)(n:Int):Sta×bh×Int:=
 if n<1\/1048576<n then(s,[],1)else
 if 1099511627776-n<s.now then(s,[],8)else
 ({s with hist:=tkL s.hist (qD s.c s.run) n s.c.half,now:=s.now+n,run:=atL s.run (s.now+n)},mH s.run (s.now+n),0)
abbrev sH(s:Sta):ab:=Do 35 s.cs
def aGb(s:Sta)(id:Int)(hl:Z s.run<=1048576)(r:Int):∀(m i:Nat),i+m=Z s.run->aO (bC id) (s.run.drop i) i=r->
  DE E f40 (ii r) [(1,ii id),(2,G2 0 0),(5,ii i)] [sH s]:=by
 have e:Z (rav s.run)=Z s.run:=by simp
 intro m;induction m with
 | zero=>
  intro i f a;exact zqya12
 | succ m d=>
  intro i f a;have b:i<Z s.run:=o_;rw[Ac b]at a;have get:(rav s.run)[i]? =X s.run[i].av:=cH b;generalize s.run[i]=x at a get;unfold aO at a;have d:=d (i+1) o_;cases c:bC id x with
  | true=>
   rw[bu c]at a;subst a;unfold bC at c;exact tA
  | false=>
   rw[bt (by rw[c];decide)]at a;have next:=d a
   unfold bC at c;exact tA
def O4(s:Sta)(id:Int)(hl:Z s.run<=1048576):bj 40 [s.av,ii id] (ii (aO (bC id) s.run 0)):=by
 have h:=aGb s id hl _ (Z s.run) 0 o_ rfl;rw[Ca]at h;generalize aO (bC id) s.run 0=r at *
 exact c_ f40 λ_=>zW
def CN(l:ba)(a:Int)(hl:Z l<=1000000):bj 42 [CA 11 (pnv l) J0,ii a] (ii (fY a l)):=by have h:=Q2.findref_ok (l.map Pn.q) a;rw[rA]at h;exact h
def U8{c:Con}{g:Gan}(h:dZ c g=0):(0<=g.pods/\g.pods<=16)/\aS g.need=true:=by
 unfold dZ at h;split at h
 .rename_i a;unfold K8 at a;simp only[Af,bo]at a;exact⟨⟨by omega,by omega⟩,a.2.1⟩
 .omega
def XK(s:Sta)(g:Gan)(k:s.c.sm)(hp:Z s.pend<=1000000)(hl:Z s.run<=1000000)(v:s.nxt<=1099511627777)(t:0<=s.nxt):
  bj 37 [s.av,g.av] (GT [(dT s g).1.av,ii (dT s g).2]):=by
 have h1:=YI s.c k g;have w:=CN s.pend g.id hp;have h3:=O4 s g.id o_;have u:Z (pnv s.pend)=Z s.pend:=by simp
 have p:Z (rav s.run)=Z s.run:=by simp
 unfold dT;by_cases d:dZ s.c g≠0
 .rw [bu d];have r:(dZ s.c g !=0)=true:=by simpa using d
  generalize dZ s.c g=e at *
  exact zqya7
 rw[bt d];have d:dZ s.c g=0:=Du.1 d;obtain⟨o,q⟩:=U8 d;rw[d]at h1;have r:((0:Int) !=0)=false:=by decide
 have i:=S8 s.c k g o q;generalize fY g.id s.pend=a at *
 generalize aO (bC g.id) s.run 0=b at *
 by_cases l:0<=a\/0<=b
 .rw [bu l];by_cases n:0<=a
  .exact zqya7
  .have m:0<=b:=o_;exact zqya7
 rw[bt l];have n:a<0:=o_;have m:b<0:=o_;cases j:(cL s.c [] g).isNone with
 | true=>
  rw[j]at i;rw[bu rfl];exact zqya7
 | false=>
  rw[j]at i;rw[bt d_];by_cases h:32<=Z s.pend+Z s.run
  .rw [bu h];exact zqya7
  .rw [bt h];have x:=SK s.pend ⟨g,s.nxt,s.now⟩ hp;generalize jO s.pend ⟨g,s.nxt,s.now⟩=pq at *
   exact zqya7
def NK{x:Rn}{l:a7}{t:Int}(h:dQ x<=t):mH (x::l) t=⟨3,x.g.id,0⟩::mH l t:=by unfold mH;rw[Hf,bu (bq h)];rfl
def NL{x:Rn}{l:a7}{t:Int}(h:¬ dQ x<=t):mH (x::l) t=mH l t:=by unfold mH;rw[Hf,bt (by simpa using h)]
def aFy(s R:Sta)(hs:Sm s.run)(l:R={s with run:=atL s.run s.now})(Q:bh):∀(m i:Nat) (ev:bh),i+m=Z s.run->Z ev<=i->ev++mH (s.run.drop i) s.now=Q->
  DE (Eo [7] []) f38 (GT [R.av,CA 3 (evv Q) J0,ii 0]) [(2,G2 0 0),(4,G2 1 0),(7,CA 3 (evv ev) (.own 2 0)),(8,ii i)] [sH s,LB,evT 0]:=by
 have e:Z (rav s.run)=Z s.run:=by simp
 have hl:=hs.1;intro m;induction m with
 | zero=>
  intro i ev n j a;rw[Ae o_]at a;have a:ev++[]=Q:=a;rw[Ao]at a;subst a;have p:=aG3 s.run hs s.now;generalize atL s.run s.now=ra at *
  subst l;exact tA
 | succ m d=>
  intro i ev n j a;have b:i<Z s.run:=o_;rw[Ac b]at a;have get:(rav s.run)[i]? =X s.run[i].av:=cH b;generalize s.run[i]=x at a get;have k:=FK x;have o:Z (evv ev)<=1048576:=by simp;omega
  by_cases f:dQ x<=s.now
  .have c:mH (x::s.run.drop (i+1)) s.now=⟨3,x.g.id,0⟩::mH (s.run.drop (i+1)) s.now:=NK f;rw[c]at a;have next:=d (i+1) (ev++[⟨3,x.g.id,0⟩]) o_ q_ (by rw[Ag];exact a)
   have h:evv (ev++[⟨3,x.g.id,0⟩])=evv ev++[Ev.av ⟨3,x.g.id,0⟩]:=by simp
   rw[h]at next
   generalize dQ x=t at *
   clear d a c h;exact tA
  .have c:mH (x::s.run.drop (i+1)) s.now=mH (s.run.drop (i+1)) s.now:=NL f;rw[c]at a;have next:=d (i+1) ev o_ o_ a
   generalize dQ x=t at *
   clear d a c;exact tA
def aFz(s:Sta)(n:Int)(h:s.c.sm)(hs:Sm s.run)(o:LtF s.hist)(b:Z s.hist<=1048576)(m:s.c.half<=9223372036854775807)(k: -9223372036854775808<=s.now)(p:s.now<=1099511627776)(l: -9223372036854775808<=n/\n<=9223372036854775807):
  bj 38 [s.av,ii n] (GT [(iR s n).1.av,CA 3 (evv (iR s n).2.1) J0,ii (iR s n).2.2]):=by
 unfold iR;by_cases e:n<1\/1048576<n
 .rw [bu e];by_cases q:n<1
  .exact zqya5
  .have i:1048576<n:=o_;exact zqya5
 rw[bt e];have q:1<=n:=o_;have i:n<=1048576:=o_;by_cases d:1099511627776-n<s.now
 .rw [bu d];exact zqya5
 .rw [bt d];have a:=aA6 s.c s.run;have hsl:Z (qD s.c s.run)<=1048576:=by have:=h.ns;unfold qD ofL nG;rw[kZ];simp;omega
  have h1:=XV s.c h s.run hs.1;have r:=aGc s.hist (qD s.c s.run) o b a hsl n s.c.half o_ m;have j:=aFy {s with hist:=tkL s.hist (qD s.c s.run) n s.c.half,now:=s.now+n} {s with hist:=tkL s.hist (qD s.c s.run) n s.c.half,now:=s.now+n,run:=atL s.run (s.now+n)} hs rfl _ (Z s.run) 0 [] s_ s_ rfl;rw[Ca]at j;generalize tkL s.hist (qD s.c s.run) n s.c.half=th at *
  generalize qD s.c s.run=sh at *
  generalize mH s.run (s.now+n)=Q at *
  have t:[]++Q=Q:=rfl;generalize atL s.run (s.now+n)=ra at *
  exact zqya5
def aC(s:Sta)(x:Cmd):Sta×bh×Int:=
 if C8.chk x≠0 then(s,[],C8.chk x)else
 if x.k=1 then(if bL x.c≠0 then(s,[],bL x.c)else if 0<Z s.pend+Z s.run then(s,[],7)else({s with c:=x.c,hist:=Ak (Z x.c.ns) 0},[],0))else
 if x.k=2 then((dT s x.g).1,[],(dT s x.g).2)else
 if x.k=5 then iR s x.n else
 if x.k=6 then((mV s).s,(mV s).ev,0)else
 if 0<=aO (bC x.n) s.run 0 then({s with run:=aB s.run [x.n]},[],0)else
 if x.k=3\/fY x.n s.pend<0 then(s,[],4)else
 ({s with pend:=dS s.pend x.n},[],0)
abbrev apC(s:Sta)(x:Cmd)(R:Sta×bh×Int):Prop:=bj 13 [s.av,x.av] (GT [R.1.av,CA 3 (evv R.2.1) J0,ii R.2.2])
def aOg(s:Sta)(x:Cmd)(e:Int)(a:C8.chk x=e)(h:e≠0):apC s x (s,[],e):=by
 have h1:=C8.rcheck_any x e a;have b:(e !=0)=true:=by simpa using h
 exact zqya3
def aTx(s:Sta)(x:Cmd)(b:C8.chk x=0)(a:x.k=2)(S:Sta)(e:Int)(d:bj 37 [s.av,x.g.av] (GT [S.av,ii e])):apC s x (S,[],e):=by exact zqya11
def aTw(s:Sta)(x:Cmd)(b:C8.chk x=0)(a:x.k=5)(S:Sta)(ev:bh)(e:Int)(d:bj 38 [s.av,ii x.n] (GT [S.av,CA 3 (evv ev) J0,ii e])):apC s x (S,ev,e):=by exact zqya11
def aTv(s:Sta)(x:Cmd)(b:C8.chk x=0)(a:x.k=6)(S:Sta)(ev:bh)(d:bj 39 [s.av] (GT [S.av,CA 3 (evv ev) J0])):apC s x (S,ev,0):=by exact zqya11
def aOe(s:Sta)(x:Cmd)(d:C8.chk x=0)(b:x.k=3\/x.k=4)(hs:Sm s.run)(h:0<=aO (bC x.n) s.run 0):apC s x ({s with run:=aB s.run [x.n]},[],0):=by
 have h1:=C8.rcheck_any x 0 d;have e:=O4 s x.n hs.1;have h3:=pN s.run hs [x.n] s_;generalize aO (bC x.n) s.run 0=a at *
 obtain⟨k,c,g,n⟩:=x;generalize aB s.run [n]=rn at *
 rcases b with b|b<;>dsimp only at b<;>subst b
 all_goals
  refine gA (Eo [87] []) f13 λ_=>?_;exact zW
def aRK(s:Sta)(x:Cmd)(e:C8.chk x=0)(d:x.k=3\/x.k=4)(hs:Sm s.run)(hp:Z s.pend<=1000000)(h:¬ 0<=aO (bC x.n) s.run 0)(i:x.k=3\/fY x.n s.pend<0):apC s x (s,[],4):=by
 have h1:=C8.rcheck_any x 0 e;have j:=O4 s x.n hs.1;have h3:=CN s.pend x.n hp;generalize aO (bC x.n) s.run 0=a at *
 generalize fY x.n s.pend=b at *
 obtain⟨k,c,g,n⟩:=x;dsimp only at d i;rcases d with rfl|rfl
 .exact zqya3
 .have l:b<0:=o_;exact zqya3
def aOf(s:Sta)(x:Cmd)(e:C8.chk x=0)(d:x.k=4)(hs:Sm s.run)(hp:Z s.pend<=1000000)(h:¬ 0<=aO (bC x.n) s.run 0)(i:¬ fY x.n s.pend<0):apC s x ({s with pend:=dS s.pend x.n},[],0):=by
 have h1:=C8.rcheck_any x 0 e;have j:=O4 s x.n hs.1;have h3:=CN s.pend x.n hp;have l:=L4 s.pend x.n hp;generalize aO (bC x.n) s.run 0=a at *
 generalize fY x.n s.pend=b at *
 generalize dS s.pend x.n=pq at *
 obtain⟨k,c,g,n⟩:=x;dsimp only at d;subst d;exact zqya3
def aRL(s:Sta)(x:Cmd)(b:C8.chk x=0)(a:x.k=1)(d:x.c.sm)(h:bL x.c≠0):apC s x (s,[],bL x.c):=by
 have h1:=C8.rcheck_any x 0 b;have i:=check_ok x.c d;obtain⟨k,c,g,n⟩:=x;dsimp only at a h i⊢;generalize bL c=e at *
 subst a;have j:(e !=0)=true:=by simpa using h
 exact zqya3
def aJ1(s:Sta)(x:Cmd)(d:C8.chk x=0)(a:x.k=1)(j:x.c.sm)(h:bL x.c=0)(hp:Z s.pend<=1000000)(hl:Z s.run<=1000000)(l:0<Z s.pend+Z s.run):apC s x (s,[],7):=by
 have h1:=C8.rcheck_any x 0 d;have b:=check_ok x.c j;have i:Z (pnv s.pend)=Z s.pend:=by simp
 have e:Z (rav s.run)=Z s.run:=by simp
 obtain⟨k,c,g,n⟩:=x;dsimp only at a h b;rw[h]at b;subst a;exact zqya3
def aJ0(s:Sta)(x:Cmd)(m:C8.chk x=0)(j:x.k=1)(e:x.c.sm)(h:bL x.c=0)(hp:s.pend=[])(hl:s.run=[]):apC s x ({s with c:=x.c,hist:=Ak (Z x.c.ns) 0},[],0):=by
 have h1:=C8.rcheck_any x 0 m;have d:=check_ok x.c e;have q:Z (pnv s.pend)=0:=by rw[hp];rfl
 have o:Z (rav s.run)=0:=by rw[hl];rfl
 obtain⟨k,c,g,n⟩:=x;dsimp only at j h d e⊢;rw[h]at d;subst j;have p:=e.ns;have a:Z (nav c.ns)=Z c.ns:=by simp
 have i:(8:Int)*(Z (nav c.ns):Int)<=281474976710656:=by rw[a];omega
 have l:Z (nav c.ns)<=maxLen:=by rw[a];simp only[maxLen];omega
 have b:fv (Ak (Z c.ns) 0)=Ak (Z (nav c.ns)) (GE IH 0):=by rw[a];simp
 unfold apC Sta.av Sta.cs;dsimp only;rw[b];refine c_ f13 λ_=>gV ?_;refine .p h1 (gV ?_);refine Aa (λh=>bv h d_) (λ_=>gV ?_);refine Aa (λ_=>?_) (λh=>by cases h);refine gV ?_;refine .p d (gV ?_);refine Aa (λh=>bv h d_) (λ_=>gV ?_);refine aJ (gV ?_);refine Aa (λh=>bv (bn h) o_) (λ_=>?_);refine bR hE 2 ?_;conv=>whnf
 refine To.permT hE [0,1,2,3,4,5,7,9] [6,8,10] (by rfl) ?_;conv=>whnf
 refine aL ?_;conv=>whnf
 refine⟨?_,?_,trivial⟩
 .conv=>whnf
  refine Exists.intro (Z (nav c.ns)) (Aa rfl ?_);conv=>whnf
  refine Aa (Aa rfl (Aa i l)) ?_;conv=>whnf
  refine aL ?_;conv=>whnf
  refine⟨?_,trivial⟩;conv=>whnf
  exact zqya17
 .conv=>whnf
  refine aL ?_;conv=>whnf
  refine⟨?_,trivial⟩;conv=>whnf
  refine Exists.intro (Z (nav c.ns)) (Aa rfl ?_);conv=>whnf
  refine Aa (Aa rfl (Aa i l)) ?_;conv=>whnf
  exact zqya17
structure StOK(s:Sta):Prop where
 c:s.c.sm
 run:RunOK s
 half:s.c.half<=9223372036854775807
 nxt:0<=s.nxt/\s.nxt<=1099511627777
def aOT{x:Cmd}(h:C8.chk x=0):1<=x.k/\x.k<=6:=by
 unfold C8.chk at h;split at h
 .rename_i a;simpa using a
 .omega
def xT(s:Sta)(x:Cmd)(h:StOK s)(t:x.k=1->x.c.sm)(r: -9223372036854775808<=x.n/\x.n<=9223372036854775807):apC s x (aC s x):=by
 have d:=h.run.sm;have m:=h.run.base.few;rw[Ah,Bw]at m;unfold aC;by_cases a:C8.chk x≠0
 .rw [bu a];exact aOg s x _ rfl a
 rw[bt a];have a:C8.chk x=0:=Du.1 a;have u:=aOT a;by_cases f:x.k=1
 .rw [bu f];have e:=t f;by_cases b:bL x.c≠0
  .rw [bu b];exact aRL s x a f e b
  rw[bt b];have b:bL x.c=0:=Du.1 b;by_cases l:0<Z s.pend+Z s.run
  .rw [bu l];exact aJ1 s x a f e b o_ o_ l
  .rw [bt l];exact aJ0 s x a f e b (Cm.1 o_) (Cm.1 o_)
 rw[bt f];by_cases b:x.k=2
 .rw [bu b];exact aTx s x a b _ _ (XK s x.g h.c o_ o_ h.nxt.2 h.nxt.1)
 rw[bt b];by_cases o:x.k=5
 .rw [bu o];exact aTw s x a o _ _ _ (aFz s x.n h.c d.run h.run.ord.lt h.run.ord.hl h.half (by have:=h.run.ord.now;omega) h.run.ord.now.2 r)
 rw[bt o];by_cases p:x.k=6
 .rw [bu p];exact aTv s x a p _ _ (aK7 s h.run)
 rw[bt p];have j:x.k=3\/x.k=4:=o_;by_cases i:0<=aO (bC x.n) s.run 0
 .rw [bu i];exact aOe s x a j d.run i
 rw[bt i];by_cases q:x.k=3\/fY x.n s.pend<0
 .rw [bu q];exact aRK s x a j d.run o_ i q
 .rw [bt q];exact aOf s x a o_ d.run o_ i o_
def qR(s:Sta)(h:StaSm' s):bj 95 [s.av] s.av:=by have h1:=QY s.c.ns h.ns;have b:=QZ s.c.hs h.hs;have h3:=aAf s.pend h.pend;have a:=aAg s.hist h.hist;have d:=aA.nil2 (by have h:=sD s.run h.run [] s_;rw[fE]at h;exact h);exact c_ f95 λ_=>zW
def aFO(s:Sta)(id:Int)(hl:Z s.run<=1048576):bj 150 [s.av,ii id] (ii (aO (bC id) s.run 0)):=by
 have h:=IR _ id (LY id) s.run hl;generalize aO (bC id) s.run 0=r at *
 exact c_ f150 λ_=>zW
def aKS:bj 34 [] (Sta.av ⟨⟨[],[],0,0⟩,0,1,[],[],[]⟩):=by exact c_ f34 λ_=>zW
abbrev aRW(s S:Sta)(g:Gan)(e:Int):Prop:=ar 99 [G2 0 0,g.av] [sH s] (Io (ii e)) [sH S]
def aKM(s:Sta)(g:Gan)(r:s.c.sm)(hp:Z s.pend<=1000000)(hl:Z s.run<=1000000)(u:s.nxt<=1099511627777)(p:0<=s.nxt):aRW s (dT s g).1 g (dT s g).2:=by
 have h1:=R7 s.c g;have w:=aHe s.pend g.id;have h3:=aFO s g.id o_;have q:Z (pnv s.pend)=Z s.pend:=by simp
 have o:Z (rav s.run)=Z s.run:=by simp
 unfold dT;by_cases d:dZ s.c g≠0
 .rw [bu d];have v:(dZ s.c g !=0)=true:=by simpa using d
  generalize dZ s.c g=e at *
  exact zqya2
 rw[bt d];have d:dZ s.c g=0:=Du.1 d;obtain⟨n,t⟩:=U8 d;rw[d]at h1;have i:=T9 s.c r g n;generalize fY g.id s.pend=a at *
 generalize aO (bC g.id) s.run 0=b at *
 by_cases k:0<=a\/0<=b
 .rw [bu k];by_cases m:0<=a
  .exact zqya2
  .have l:0<=b:=o_;exact zqya2
 rw[bt k];have m:a<0:=o_;have l:b<0:=o_;cases j:(cL s.c [] g).isNone with
 | true=>
  rw[j]at i;rw[bu rfl];exact zqya2
 | false=>
  rw[j]at i;rw[bt d_];by_cases h:32<=Z s.pend+Z s.run
  .rw [bu h];exact zqya2
  .rw [bt h];have x:=PI s.pend ⟨g,s.nxt,s.now⟩ hp;generalize jO s.pend ⟨g,s.nxt,s.now⟩=pq at *
   exact zqya2
def aN7(n a b:Int)(r:Bool)(d:(decide (a<=n)&&decide (n<=b))=r):bj 155 [ii n,ii a,ii b] (DA r):=by
 by_cases h1:a<=n
 .by_cases c:n<=b
  .have e:r=true:=by rw[<-d,bq h1,bq c];rfl
   subst e;refine c_ f155 λ_=>?_
   repeat' first|refine pA ?_|exact rfl|refine lA ?_ ?_|intro h
   all_goals exact congrArg (λb=>Res.ret (aa.bool b)) (bq c)
  .have e:r=false:=by rw[<-d,bq h1,bp c];rfl
   subst e;refine c_ f155 λ_=>?_
   repeat' first|refine pA ?_|exact rfl|refine lA ?_ ?_|intro h
   all_goals exact congrArg (λb=>Res.ret (aa.bool b)) (bp c)
 .have e:r=false:=by rw[<-d,bp h1];rfl
  subst e;exact c_ f155 λ_=>zW
abbrev aT0(R:Sta)(Q:bh)(e:Int):Goal:=.full 1 (Io (GT [CA 3 (evv Q) J0,ii e])) [sH R]
def aH6(s R:Sta)(hs:Sm s.run)(k:R={s with run:=atL s.run s.now})(Q:bh):∀(m i:Nat) (ev:bh),i+m=Z s.run->Z ev<=i->ev++mH (s.run.drop i) s.now=Q->
  To (Eo [6] []) f102 (aT0 R Q 0) (BV f102 [(0,G2 0 0),(6,CA 3 (evv ev) (.own 1 0)),(55,CA 14 (rav s.run) J0),(56,GE Is (Z (rav s.run):Nat)),(57,ii i)] [sH s,evT 0]):=by
 have d:Z (rav s.run)=Z s.run:=by simp
 have hl:=hs.1;intro m;induction m with
 | zero=>
  intro i ev l h a;rw[Ae o_]at a;have a:ev++[]=Q:=a;rw[Ao]at a;subst a;have o:=aJW s.run hs s.now;generalize atL s.run s.now=ra at *
  subst k;exact tA
 | succ m c=>
  intro i ev l h a;have b:i<Z s.run:=o_;rw[Ac b]at a;have get:(rav s.run)[i]? =X s.run[i].av:=cH b;generalize s.run[i]=x at a get;have j:=JA x;have n:Z (evv ev)<=1048576:=by simp;omega
  by_cases e:dQ x<=s.now
  .rw [NK e]at a;have next:=c (i+1) (ev++[⟨3,x.g.id,0⟩]) o_ q_ (by rw[Ag];exact a)
   have f:evv (ev++[⟨3,x.g.id,0⟩])=evv ev++[Ev.av ⟨3,x.g.id,0⟩]:=by simp
   rw[f]at next
   generalize dQ x=t at *
   clear c a f;exact tA
  .rw [NL e]at a;have next:=c (i+1) ev o_ o_ a
   generalize dQ x=t at *
   clear c a;exact tA
def aH5(s:Sta)(n:Int)(k:s.c.sm)(hs:Sm s.run)(r:LtF s.hist)(d:Z s.hist<=1048576)(p:s.c.half<=9223372036854775807)(o:0<=s.now)(t:s.now<=1099511627776):
  ((iR s n).2.2≠0->ar 102 [G2 0 0,ii n] [sH s] (Io (GT [CA 3 [] .nil,ii (iR s n).2.2])) [sH (iR s n).1])/\((iR s n).2.2=0->ar 102 [G2 0 0,ii n] [sH s] (Io (GT [CA 3 (evv (iR s n).2.1) J0,ii 0])) [sH (iR s n).1]):=by
 have j:=aN7 n 1 1048576 _ rfl;unfold iR;by_cases a:n<1\/1048576<n
 .rw [bu a];have e:(decide (1<=n)&&decide (n<=1048576))=false:=by
   rcases a with q|q
   .rw [bp o_];rfl
   .rw [bp (show ¬ n<=1048576 by omega),Bool.and_false]
  rw[e]at j;refine⟨λ_=>?_,λh=>by cases h⟩;exact zqya10
 rw[bt a];have u:1<=n:=o_;have l:n<=1048576:=o_;rw[bq u,bq l]at j;by_cases i:1099511627776-n<s.now
 .rw [bu i];refine⟨λ_=>?_,λh=>by cases h⟩;exact zqya10
 .rw [bt i];refine⟨λh=>bv rfl h,λ_=>?_⟩;have b:=aA6 s.c s.run;have hsl:Z (qD s.c s.run)<=1048576:=by have:=k.ns;unfold qD ofL nG;rw[kZ];simp;omega
  have h1:=aDf s.c k s.run hs.1;have v:=aKz s.hist (qD s.c s.run) r d b hsl n s.c.half o_ p;have m:=aH6 {s with hist:=tkL s.hist (qD s.c s.run) n s.c.half,now:=s.now+n} {s with hist:=tkL s.hist (qD s.c s.run) n s.c.half,now:=s.now+n,run:=atL s.run (s.now+n)} hs rfl _ (Z s.run) 0 [] s_ s_ rfl;rw[Ca]at m;generalize tkL s.hist (qD s.c s.run) n s.c.half=th at *
  generalize qD s.c s.run=sh at *
  generalize mH s.run (s.now+n)=Q at *
  generalize atL s.run (s.now+n)=ra at *
  exact zqya10
abbrev aCx(s S:Sta)(c:Con)(e:Int):Prop:=ar 98 [G2 0 0,c.av] [sH s] (Io (ii e)) [sH S]
theorem aJw(s:Sta)(c:Con)(a:c.sm)(h:bL c≠0):aCx s s c (bL c):=by
 have h1:=wY c a;generalize bL c=e at *
 have b:(e !=0)=true:=by simpa using h
 exact zqya15
theorem aEK(s:Sta)(c:Con)(a:c.sm)(h:bL c=0)(hp:Z s.pend<=1000000)(hl:Z s.run<=1000000)(e:0<Z s.pend+Z s.run):aCx s s c 7:=by
 have h1:=wY c a;rw[h]at h1;have b:Z (pnv s.pend)=Z s.pend:=by simp
 have d:Z (rav s.run)=Z s.run:=by simp
 exact zqya15
def aE7(c:Con):aAx c=Ak (Z c.ns) 0:=by
 unfold aAx;have h:∀(l:bf) (i:Nat),dM (λ_ _=>0) l i=Ak (Z l) 0:=by
  intro l;induction l with
  | nil=>intro i;rfl
  | cons x l a=>intro i;unfold dM;rw[a];rfl
 exact h _ 0
theorem QW(s:Sta)(c:Con)(a:c.sm)(h:bL c=0)(hp:s.pend=[])(hl:s.run=[]):aCx s {s with c:=c,hist:=Ak (Z c.ns) 0} c 0:=by
 have h1:=wY c a;rw[h]at h1;have e:Z (pnv s.pend)=0:=by rw[hp];rfl
 have b:Z (rav s.run)=0:=by rw[hl];rfl
 have d:=a.ns;have j:=a.hs;have k:=QY c.ns o_;have h3:=QZ c.hs o_;have i:=aKf c a;rw[aE7]at i;generalize Ak (Z c.ns) 0=z at *
 refine eA (Er [] [24,38]) f98 1 λ_=>?_
 repeat' first|refine pA ?_|refine .p h1 ?_|refine .p k ?_|exact rfl|refine lA ?_ ?_|intro h
 refine .p h3 ?_;refine bR (hEr [] [24,38]) 27 ?_;conv=>whnf
 refine To.permC (hEr [] [24,38]) [0,1,2,3,4,5,6,7,8] [9,10,11,12,13] (by rfl) ?_;conv=>whnf
 refine aLC ?_;conv=>whnf;conv=>whnf
 refine aLC ?_;conv=>whnf;conv=>whnf
 refine aLC ?_;conv=>whnf;conv=>whnf
 refine aLC ?_;conv=>whnf;conv=>whnf
 refine aLC ?_;conv=>whnf;conv=>whnf
 refine aLC ?_;conv=>whnf
 exact zW
abbrev ofC(x:Cmd)(v:aa):Prop:=bj 97 [x.av] v
def aTY(x:Cmd)(a:x.k=1):ofC x (.iface 169 (He x.c.cs)):=by exact zqya1
def aTX(x:Cmd)(a:x.k=2):ofC x (.iface 173 (He x.g.cs)):=by exact zqya1
def aSo(x:Cmd)(a:x.k=3):ofC x (.iface 176 (He [ii x.n])):=by exact zqya1
def aQg(x:Cmd)(a:x.k=4):ofC x (.iface 178 (He [ii x.n])):=by exact zqya1
def aTW(x:Cmd)(a:x.k=5):ofC x (.iface 180 (He [ii x.n])):=by exact zqya1
def aTV(x:Cmd)(a:x.k=6):ofC x (.iface 183 (He [])):=by exact zqya1
abbrev mU(s:Sta)(x:Cmd)(R:Sta×bh×Int):Prop:=bj 60 [s.av,x.av] (GT [R.1.av,CA 3 (evv R.2.1) J0,ii R.2.2])
def aK0(s:Sta)(hs:StaSm' s)(x:Cmd)(e:Int)(a:C8.chk x=e)(h:e≠0):mU s x (s,[],e):=by
 have b:=qR s hs;have h1:=C8.check_any x e a;have c:(e !=0)=true:=by simpa using h
 exact zqya23
def aR6(s:Sta)(hs:StaSm' s)(x:Cmd)(i:C8.chk x=0)(j:x.k=2)(S:Sta)(e:Int)(l:e≠0->S=s)(b:aRW s S x.g e):mU s x (S,[],e):=by
 have c:=qR s hs;have h1:=C8.check_any x 0 i;have d:=aTX x j;by_cases a:e=0
 .subst a;refine c_ f60 λ_=>?_
  repeat' first|refine pA ?_|refine .p c ?_|refine .p h1 ?_|refine .p d ?_|refine .eff [] [4] _ _ rfl b ?_|exact rfl|refine lA ?_ ?_|intro h
 .have m:(e !=0)=true:=by simpa using a
  rw[l a]at b⊢;refine c_ f60 λ_=>?_
  repeat' first|refine pA ?_|refine .p c ?_|refine .p h1 ?_|refine .p d ?_|refine .eff [] [4] _ _ rfl b ?_|refine Aa (λ_=>?_) (λh=>bv (m.symm.trans h) d_)|exact rfl|refine lA ?_ ?_|intro h
def aR3(s:Sta)(hs:StaSm' s)(x:Cmd)(a:C8.chk x=0)(b:x.k=6)(S:Sta)(ev:bh)(e:bj 103 [s.av] (GT [S.av,CA 3 (evv ev) J0])):mU s x (S,ev,0):=by have c:=qR s hs;have h1:=C8.check_any x 0 a;have d:=aTV x b;exact zqya23
def aR4(s:Sta)(hs:StaSm' s)(x:Cmd)(i:C8.chk x=0)(j:x.k=5)(S:Sta)(ev:bh)(e:Int)(l:e≠0->S=s/\ev=[])
  (d:(e≠0->ar 102 [G2 0 0,ii x.n] [sH s] (Io (GT [CA 3 [] .nil,ii e])) [sH S])/\(e=0->ar 102 [G2 0 0,ii x.n] [sH s] (Io (GT [CA 3 (evv ev) J0,ii 0])) [sH S])):mU s x (S,ev,e):=by
 have b:=qR s hs;have h1:=C8.check_any x 0 i;have c:=aTW x j;by_cases a:e=0
 .have h3:=d.2 a;subst a;refine c_ f60 λ_=>?_
  repeat' first|refine pA ?_|refine .p b ?_|refine .p h1 ?_|refine .p c ?_|refine .eff [] [4] _ _ rfl h3 ?_|exact rfl|refine lA ?_ ?_|intro h
 .have m:(e !=0)=true:=by simpa using a
  have h3:=d.1 a;obtain⟨rfl,rfl⟩:=l a;refine c_ f60 λ_=>?_
  repeat' first|refine pA ?_|refine .p b ?_|refine .p h1 ?_|refine .p c ?_|refine .eff [] [4] _ _ rfl h3 ?_|refine Aa (λ_=>?_) (λh=>bv (m.symm.trans h) d_)|exact rfl|refine lA ?_ ?_|intro h
theorem aF1(s:Sta)(hs:StaSm' s)(x:Cmd)(j:C8.chk x=0)(l:x.k=1)(S:Sta)(e:Int)(m:e≠0->S=s)(b:aCx s S x.c e):mU s x (S,[],e):=by
 have d:=qR s hs;have h1:=C8.check_any x 0 j;have i:=aTY x l;by_cases a:e=0
 .subst a;refine c_ f60 λ_=>?_
  repeat' first|refine pA ?_|refine .p d ?_|refine .p h1 ?_|refine .p i ?_|refine .eff [] [4] _ _ rfl b ?_|exact rfl|refine lA ?_ ?_|intro h
 .have n:(e !=0)=true:=by simpa using a
  rw[m a]at b⊢;refine c_ f60 λ_=>?_
  repeat' first|refine pA ?_|refine .p d ?_|refine .p h1 ?_|refine .p i ?_|refine .eff [] [4] _ _ rfl b ?_|refine Aa (λ_=>?_) (λh=>bv (n.symm.trans h) d_)|exact rfl|refine lA ?_ ?_|intro h
def Y9(n:Nat)(id:Int)(e:∀x:Rn,aA Tryz.prog n [x.av,.ptr [ii id]] [] (Io (DA (bC id x))) [])(l:a7)(hl:Z l<=1048576)(r:Int):∀(m i:Nat),i+m=Z l->aO (bC id) (l.drop i) i=r->
  To E f211 (.full 1 (Io (ii r)) (CR l)) (BV f211 [(0,.row 0 0),(1,idF n id),(7,GE Is (Z (rav l):Nat)),(8,ii i)] (CR l)):=by
 have f:Z (rav l)=Z l:=by simp
 intro m;induction m with
 | zero=>
  intro i h a;exact zqya12
 | succ m d=>
  intro i h a;have b:i<Z l:=o_;rw[Ac b]at a;have get:(rav l)[i]? =X l[i].av:=cH b;generalize l[i]=x at a get;unfold aO at a;have g:=e x;have d:=d (i+1) o_;cases c:bC id x with
  | true=>
   exact zqya24
  | false=>
   exact zqya16
def aIj(n:Nat)(id:Int)(a:∀x:Rn,aA Tryz.prog n [x.av,.ptr [ii id]] [] (Io (DA (bC id x))) [])(l:a7)(hl:Z l<=1048576):ar 211 [.row 0 0,idF n id] (CR l) (Io (ii (aO (bC id) l 0))) (CR l):=by
 have h:=Y9 n id a l hl _ (Z l) 0 o_ rfl;rw[Ca]at h;generalize aO (bC id) l 0=r at *
 refine eA E f211 1 λ_=>?_;exact zW
def LO(s:Sta)(id:Int)(hl:Z s.run<=1048576):ar 150 [s.avR 0 0,ii id] (CR s.run) (Io (ii (aO (bC id) s.run 0))) (CR s.run):=by
 have h:=aIj _ id (LY id) s.run hl;generalize aO (bC id) s.run 0=r at *
 refine eA E f150 1 λ_=>?_
 repeat' first|refine pA ?_|refine .eff [2] [0] _ _ rfl h ?_|exact rfl|refine lA ?_ ?_|intro h
 refine⟨[],[0],⟨rfl,rfl⟩,rfl,rfl⟩
abbrev F5:aa:=He [ii 0,ii 0,ii 0,ii 0,ii 0,ii 0,ii 0,ii 0,ii 0,ii 0,ii 0,ii 0,ii 0,CA 1 [] J0]
def YF(xs:a7)(i:Nat)(c:i<Z xs)(e:Z xs<=1000000):ar 153 [.row 0 0,GE Is i,GE Is ((i:Int)+1)] (CR xs)
  (Io (.sub 0 0 0 (Z xs-1) 14)) [.row 0 14 85 (rav (xs.eraseIdx i)++[F5])]:=by
 refine eA E f153 1 λ_=>gV ?_;refine⟨i,rfl,gV ?_⟩;refine⟨i+1,by push_cast;rfl,?_⟩;refine gV ?_;refine⟨Z xs,by simp,gV ?_⟩;refine⟨⟨⟨by omega,by omega⟩,by simp⟩,gV ?_⟩;refine⟨λh=>?_,λh=>?_⟩
 .simp at h;omega
 .refine gV ?_;refine⟨i,rfl,gV ?_⟩;refine⟨by simp;omega,?_⟩;refine gV ?_;refine⟨i+1,by push_cast;rfl,?_⟩;refine gV ?_;refine⟨by simp;omega,?_⟩;refine gV ?_;have a:Z (rav xs)=Z xs:=by simp
  have b:Z (List.take (Z (rav xs)-(i+1)) (List.drop (i+1) (rav xs)))=Z xs-(i+1):=by simp
  rw[b,a];refine⟨by omega,gV ?_⟩;refine⟨Z xs-1,by omega,gV ?_⟩;refine⟨Z xs,rfl,gV ?_⟩;refine⟨by simp;omega,?_⟩;refine gV ?_;refine⟨[],[0],⟨rfl,rfl⟩,?_⟩;conv=>whnf
  refine⟨?_,?_⟩
  .show Res.ret (.sub 0 0 0 (i+(Z xs-(i+1))) 14)=_;rw[show i+(Z xs-(i+1))=Z xs-1 from by omega]
  .have h:=Q2.del_list (rav xs) i (by rw[a];exact c) F5;rw[a]at h;have d:(rav xs).eraseIdx i=rav (xs.eraseIdx i):=by simp only[rav,List.eraseIdx_eq_take_drop_succ,Bi,List.map_take,List.map_drop]
   rw[d]at h;exact congrArg (λl=>[ab.row 0 14 85 l]) h
abbrev aRY(s:Sta)(run:aa):ab:=Do 35 [CA 11 (nav s.c.ns) J0,CA 6 (hav s.c.hs) J0,ii s.c.half,ii s.c.age,ii s.now,ii s.nxt,CA 11 (pnv s.pend) J0,run,CA 1 (fv s.hist) J0]
abbrev aPm(s:Sta):aw:=[aRY s (.row 1 0),.row 0 14 85 (rav s.run)]
def aA0(s:Sta)(id:Int)(hl:Z s.run<=1000000)(h:¬ 0<=aO (bC id) s.run 0):ar 100 [G2 0 0,ii id] (aPm s) (Io (ii 4)) (aPm s):=by
 have h1:=LO s id o_;generalize aO (bC id) s.run 0=a at *
 exact zqya20
def aAZ(s:Sta)(id:Int)(i:Nat)(hl:Z s.run<=1000000)(a:i<Z s.run)(h:aO (bC id) s.run 0=(i:Int)):ar 100 [G2 0 0,ii id] (aPm s) (Io (ii 0)) [aRY s (.sub 1 0 0 (Z s.run-1) 14),.row 0 14 85 (rav (s.run.eraseIdx i)++[F5])]:=by
 have h1:=LO s id o_;have b:=YF s.run i a hl;rw[h]at h1;generalize Z s.run-1=q at *
 generalize rav (s.run.eraseIdx i)++[F5]=K at *
 exact zqya20
theorem aPz(s:Sta)(hs:StaSm' s)(x:Cmd)(a:C8.chk x=0)(b:x.k=3)(hl:Z s.run<=1000000)(h:¬ 0<=aO (bC x.n) s.run 0):mU s x (s,[],4):=by
 have c:=FE s hs;have h1:=C8.check_any x 0 a;have d:=aSo x b;have e:=aA0 s x.n hl h;refine c_ f60 λ_=>?_
 repeat' first|refine pA ?_|refine .p c ?_|refine .p h1 ?_|refine .p d ?_|refine .eff [] [6,5] _ _ rfl e ?_|exact rfl|refine lA ?_ ?_|intro h
def aJt(l:a7)(i:Nat)(a:i<Z l):((rav (l.eraseIdx i)++[F5]).drop 0).take (Z l-1)=rav (l.eraseIdx i):=by
 have h:Z (rav (l.eraseIdx i))=Z l-1:=by simp[List.length_eraseIdx,a]
 rw[Ca,<-h,List.take_left'];rfl
def aR5(s:Sta)(hs:StaSm' s)(x:Cmd)(c:C8.chk x=0)(d:x.k=3)(hl:Z s.run<=1000000)(i:Nat)(a:i<Z s.run)(h:aO (bC x.n) s.run 0=(i:Int)):mU s x ({s with run:=s.run.eraseIdx i},[],0):=by
 have e:=FE s hs;have h1:=C8.check_any x 0 c;have j:=aSo x d;have l:=aAZ s x.n i hl a h;have b:=aJt s.run i a;unfold mU Sta.av Sta.cs;dsimp only;rw[<-b];generalize Z s.run-1=q at *
 generalize rav (s.run.eraseIdx i)++[F5]=K at *
 clear b;refine c_ f60 λ_=>?_
 repeat' first|refine pA ?_|refine .p e ?_|refine .p h1 ?_|refine .p j ?_|refine .eff [] [6,5] _ _ rfl l ?_|exact rfl|refine lA ?_ ?_|intro h
def aPw(s:Sta)(hs:StaSm' s)(x:Cmd)(a:C8.chk x=0)(c:x.k=4)(hp:Z s.pend<=1000000)(h:¬ fY x.n s.pend<0):mU s x ({s with pend:=dS s.pend x.n},[],0):=by
 have d:=qR s hs;have h1:=C8.check_any x 0 a;have e:=aQg x c;have b:=vJ s.pend x.n hp;rw[bp h]at b;generalize dS s.pend x.n=pq at *
 exact zqya23
def RZ{l:ba}{a:Int}(h:fY a l<0):dS l a=l:=by unfold dS;rw[bu h]
theorem aPy(s:Sta)(hs:StaSm' s)(x:Cmd)(b:C8.chk x=0)(c:x.k=4)(hp:Z s.pend<=1000000)(hl:Z s.run<=1000000)(h:fY x.n s.pend<0)(d:¬ 0<=aO (bC x.n) s.run 0):mU s x (s,[],4):=by
 have e:=FE s hs;have h1:=C8.check_any x 0 b;have i:=aQg x c;have a:=vJ s.pend x.n hp;rw[bq h,RZ h]at a;have j:=aA0 s x.n hl d;refine c_ f60 λ_=>?_
 repeat' first|refine pA ?_|refine .p e ?_|refine .p h1 ?_|refine .p i ?_|refine .p a ?_|refine .eff [] [6,5] _ _ rfl j ?_|exact rfl|refine lA ?_ ?_|intro h
theorem aPx(s:Sta)(hs:StaSm' s)(x:Cmd)(d:C8.chk x=0)(e:x.k=4)(hp:Z s.pend<=1000000)(hl:Z s.run<=1000000)(h:fY x.n s.pend<0)(i:Nat)(a:i<Z s.run)(j:aO (bC x.n) s.run 0=(i:Int)):mU s x ({s with run:=s.run.eraseIdx i},[],0):=by
 have l:=FE s hs;have h1:=C8.check_any x 0 d;have m:=aQg x e;have b:=vJ s.pend x.n hp;rw[bq h,RZ h]at b;have o:=aAZ s x.n i hl a j;have c:=aJt s.run i a;unfold mU Sta.av Sta.cs;dsimp only;rw[<-c];generalize Z s.run-1=q at *
 generalize rav (s.run.eraseIdx i)++[F5]=K at *
 clear c;refine c_ f60 λ_=>?_
 repeat' first|refine pA ?_|refine .p l ?_|refine .p h1 ?_|refine .p m ?_|refine .p b ?_|refine .eff [] [6,5] _ _ rfl o ?_|exact rfl|refine lA ?_ ?_|intro h
def aOR(id:Int):∀(l:a7) (k i:Nat),(l.map λx=>x.g.id).Nodup->aO (bC id) l k=((k+i:Nat):Int)->l.eraseIdx i=aB l [id]
 | [],k,i,_,h=>by have h:(-1:Int)=((k+i:Nat):Int):=h;omega
 | x::l,k,i,hn,h=>by
  rw[Bf,Ci]at hn;unfold aO at h;by_cases a:bC id x=O
  .rw [bu a]at h;obtain rfl:i=0:=o_;have b:x.g.id=id:=by unfold bC at a;simpa using a
   have h1:inB x.g.id [id]=true:=FR.2 (by rw[b];exact List.mem_singleton_self _);rw[lY h1];show l=_;refine(List.filter_eq_self.2 λy e=>?_).symm
   grind[Cf,FR]
  .rw [bt a]at h;rcases oK (bC id) l (k+1)with d|d
   .omega
   .obtain ⟨j,rfl⟩:∃j,i=j+1:=⟨i-1,by omega⟩
    have h1:inB x.g.id [id]=false:=by
     cases c:inB x.g.id [id]with
     | false=>rfl
     | true=>exact bv (by unfold bC;simpa using FR.1 c) a
    rw[lX h1];show x::l.eraseIdx j=_;rw[aOR id l (k+1) j hn.2 (by rw[h];congr 1;omega)]
def aN5{s:Sta}(b:Base s){n:Int}(h1:¬ fY n s.pend<0)(i:0<=aO (bC n) s.run 0):False:=by
 obtain⟨d,c⟩:=F9 i;rcases FU n s.pend with⟨_,h⟩|⟨A,p,B,e,hp,_⟩
 .omega
 .have a:=b.ids;rw[Bi,Cr]at a;exact a.2.2 n (by grind[Cf,Cy,Aw]) n (by rw[<-c,Dz];exact Cf (f:=(λx=>x.g.id) ∘ Rn.pn) d) rfl
def GS(s:Sta)(g:Gan):(dT s g).2≠0->(dT s g).1=s:=by
 unfold dT
 grind
def CF(s:Sta)(n:Int):(iR s n).2.2≠0->(iR s n).1=s/\(iR s n).2.1=[]:=by
 unfold iR
 grind
def LW(s:Sta)(x:Cmd)(h:StOK s)(A:x.k=1->x.c.sm):mU s x (aC s x):=by
 have a:=h.run.sm;have q:=h.run.base.few;have f:=TY (aj.once h.run.base (s:=s) (r:=⟨s,[],U,0⟩) (rest:=[]) ⟨rfl,rfl,rfl,rfl,Fj _,λp hp=>(by cases hp),Ib,λ_=>rfl,a.run.2⟩);rw[Ah,Bw]at q;unfold aC;by_cases b:C8.chk x≠0
 .rw [bu b];exact aK0 s a x _ rfl b
 rw[bt b];have b:C8.chk x=0:=Du.1 b;have B:=aOT b;by_cases o:x.k=1
 .rw [bu o];have y:=A o;by_cases d:bL x.c≠0
  .rw [bu d]
   grind[aF1,aJw]
  rw[bt d];have d:bL x.c=0:=Du.1 d;by_cases j:0<Z s.pend+Z s.run
  .rw [bu j]
   grind[aF1,aEK]
  .rw [bt j]
   grind[aF1,QW,Cm]
 rw[bt o];by_cases d:x.k=2
 .rw [bu d];exact aR6 s a x b d _ _ (GS s x.g) (aKM s x.g h.c o_ o_ h.nxt.2 h.nxt.1)
 rw[bt d];by_cases t:x.k=5
 .rw [bu t];exact aR4 s a x b t _ _ _ (CF s x.n) (aH5 s x.n h.c a.run h.run.ord.lt h.run.ord.hl h.half h.run.ord.now.1 h.run.ord.now.2)
 rw[bt t];by_cases u:x.k=6
 .rw [bu u];exact aR3 s a x b u _ _ (aK3 s h.run)
 rw[bt u];by_cases l:0<=aO (bC x.n) s.run 0
 .rw [bu l]
  obtain⟨i,v⟩:∃i:Nat,aO (bC x.n) s.run 0=(i:Int):=⟨_,(Int.toNat_of_nonneg l).symm⟩
  have m:i<Z s.run:=by rcases oK (bC x.n) s.run 0 with z|z<;>omega
  rw[<-aOR x.n s.run 0 i f (by rw[v];congr 1;omega)];by_cases j:x.k=3
  .exact aR5 s a x b j o_ i m v
  .have C:fY x.n s.pend<0:=Lp λe=>aN5 h.run.base e l
   grind[aPx]
 rw[bt l];by_cases w:x.k=3\/fY x.n s.pend<0
 .rw [bu w]
  grind[aPz,aPy]
 .rw [bt w];exact aPw s a x b o_ o_ o_
def mA:Sta:=⟨⟨[],[],0,0⟩,0,1,[],[],[]⟩
def GR{f:Rn->Int}(q:Rn->Bool):∀{l:a7},(∀x∈l,0<=f x)->dA ((l.filter q).map f)<=dA (l.map f)
 | [],_=>Em _
 | x::l,h=>by
  have c:=GR q (l:=l) λy b=>h y (Bb _ b);have d:=h x (Aw ..);have e:dA ((x::l).map f)=f x+dA (l.map f):=rfl;by_cases a:q x=O
  .rw [Ga a,e];show f x+dA _<=_;omega
  .rw [Fz a,e];omega
def R3{f:Rn->Int}{x:Rn}:∀{l:a7},dA ((l++[x]).map f)=dA (l.map f)+f x
 | []=>by show f x+0=0+f x;omega
 | y::l=>by show f y+dA ((l++[x]).map f)=f y+dA (l.map f)+f x;rw[R3];omega
def V9{c:Con}{free:a8}{g:Gan}{hs:ax}:uK c free g hs=O↔(Z hs:Int)=g.pods/\(∃G∈gpL c g.lev,∀u∈hs,u∈G)/\∀u∈hs,0<=u/\u<(Z free:Int)/\((hs.count u:Nat):Int)<=dX ((free[u.toNat]?).getD V3.zero) g.need:=by
 constructor
 .intro h;obtain⟨h1,f⟩:=Q1 h;refine⟨h1,?_,f⟩;unfold uK at h;rw[bu h1,Fy]at h;obtain⟨G,i,h⟩:=h;unfold chkG at h;rw[Af]at h;exact⟨G,i,AE.1 h.1⟩
 .intro ⟨h1,⟨G,i,f⟩,h3⟩;unfold uK;rw[bu h1,Fy];refine⟨G,i,?_⟩;unfold chkG;rw[AE.2 f,Bool.true_and];unfold IZ;rw[Cj];intro u j;obtain⟨a,b,d⟩:=h3 u j;unfold aII;rw[bt q_,bt q_];have e:E6 u hs=((hs.count u:Nat):Int):=by unfold E6;rw[DN];omega
  rw[e];simp;omega
def aGr{free need:V3}{n:Int}(e:aS need=O)(h1:1<=n)(f:n<=16):n<=dX free need↔need.a*n<=free.a/\need.b*n<=free.b/\need.c*n<=free.c:=by
 constructor
 .exact wT e h1
 .intro ⟨a,b,d⟩;obtain⟨g,j,k⟩:=cJ e;have key:∀x y:Int,0<=x->x*n<=y->x<=y:=λx y l h=>by have:x*1<=x*n:=Int.mul_le_mul_of_nonneg_left h1 l;omega
  have i:cD need free=true:=wL.2 ⟨key _ _ g.1 a,key _ _ j.1 b,key _ _ k.1 d⟩;exact(FH e i n).2 ⟨f,a,b,d⟩
structure ao(g:Gan):Prop where
 v:aS g.need=O
 pods:1<=g.pods/\g.pods<=16
 lev:0<=g.pref/\g.pref<=g.lev/\g.lev<=3
 run:1<=g.run/\g.run<=1048576
 id:1<=g.id
def jI{c:Con}{g:Gan}(h:dZ c g=0):ao g:=by obtain⟨h1,_⟩:=rM.1 h;unfold K8 at h1;simp only[Af,bo]at h1;exact⟨h1.2.1,by omega,by omega,by omega,by omega⟩
def wH(p:V3->Int)(c:Con)(l:a7):Prop:=∀j:Nat,j<Z c.hs->dA (l.map (D0 p (j:Int)))<=p (bE c.hs (j:Int)).c
def aOY(c:Con)(r:Rn):Prop:=(Z r.hs:Int)=r.g.pods/\(∃G∈gpL c r.g.lev,∀u∈r.hs,u∈G)/\∀u∈r.hs,0<=u/\u<(Z c.hs:Int)
structure HstOK(c:Con)(l:a7):Prop where
 a:wH V3.a c l
 b:wH V3.b c l
 d:wH V3.c c l
def wH.filter{p:V3->Int}{c:Con}{l:a7}(q:Rn->Bool)(b:∀v,aS v=O->0<=p v)(e:∀x∈l,ao x.g)(h:wH p c l):wH p c (l.filter q):=λj a=>
 Int.le_trans (GR q λx d=>Js (b _ (e x d).v) o_) (h j a)
def HstOK.filter{c:Con}{l:a7}(q:Rn->Bool)(f:∀x∈l,ao x.g)(h:HstOK c l):HstOK c (l.filter q):=
 ⟨h.a.filter q (λ_ e=>(cJ e).1.1) f,h.b.filter q (λ_ e=>(cJ e).2.1.1) f,h.d.filter q (λ_ e=>(cJ e).2.2.1) f⟩
def aRu{c:Con}{l:a7}(G:bL c=0)(n:∀x∈l,ao x.g)(y:(l.map λx=>x.g.id).Nodup)(k:HstOK c l){r:Rn}(o:r∈l)(hp:aOY c r):uK c (iL c (l.filter λx=>!(x.g.id==r.g.id))) r.g r.hs=true:=by
 obtain⟨B,C,w⟩:=hp;refine V9.2 ⟨B,C,λu s=>?_⟩;obtain⟨A,z⟩:=w u s;rw[BR];refine⟨A,z,?_⟩;have m:=n r o;have q:0<r.hs.count u:=Ll.2 s;have F:r.hs.count u<=Z r.hs:=List.count_le_length;have t:=m.pods;refine(aGr m.v o_ o_).2 ?_
 obtain⟨j,rfl⟩:∃j:Nat,u=(j:Int):=⟨u.toNat,by omega⟩
 have i:j<Z c.hs:=o_;have key:∀p:V3->Int,Prj p->(∀v,aS v=O->0<=p v/\p v<=1048576)->wH p c l->p r.g.need*((r.hs.count (j:Int):Nat):Int)<=p (((iL c (l.filter λx=>!(x.g.id==r.g.id)))[(j:Int).toNat]?).getD V3.zero):=λp hp h hs=>by rw[Bo,aB5 hp (λj i=>h _ (aAm G i)) (λx Be=>h _ (n x (Fp.1 Be).1).v) i];have h1:=hs j i;rw[aAV (f:=D0 p (j:Int)) o y]at h1;have e:D0 p (j:Int) r=p r.g.need*((r.hs.count (j:Int):Nat):Int):=rfl;rw[<-e];omega
 exact⟨key _ aLN (λ_ h=>(cJ h).1) k.a,key _ aLM (λ_ h=>(cJ h).2.1) k.b,key _ aLL (λ_ h=>(cJ h).2.2) k.d⟩
def wH.more{p:V3->Int}{c:Con}{l:a7}{x:Rn}(hp:Prj p)(o:bL c=0)(i:∀v,aS v=O->0<=p v/\p v<=1048576)(m:∀free need (n:Int),aS need=O->1<=n->n<=dX free need->p need*n<=p free)(k:∀y∈l,ao y.g)(b:ao x.g)
  (d:∀u∈x.hs,((x.hs.count u:Nat):Int)<=dX (((iL c l)[u.toNat]?).getD V3.zero) x.g.need) (h:wH p c l):wH p c (l++[x]):=by
 intro j a;rw[R3];have q:=h j a;have e:D0 p (j:Int) x=p x.g.need*((x.hs.count (j:Int):Nat):Int):=rfl;by_cases hm:(j:Int)∈x.hs
 .have f:0<x.hs.count (j:Int):=Ll.2 hm;have h1:=m _ _ _ b.v o_ (d _ hm);rw[Bo,aB5 hp (λj a=>i _ (aAm o a)) (λx b=>i _ (k x b).v) a,<-e]at h1
  grind[Js]
 .rw [e,List.count_eq_zero.2 hm];simp;omega
def HstOK.more{c:Con}{l:a7}{x:Rn}(k:bL c=0)(m:∀y∈l,ao y.g)(j:ao x.g)(f:∀u∈x.hs,((x.hs.count u:Nat):Int)<=dX (((iL c l)[u.toNat]?).getD V3.zero) x.g.need)(h:HstOK c l):HstOK c (l++[x]):=
 ⟨h.a.more aLN k (λ_ e=>(cJ e).1) (λ_ _ _ e h1 i=>(wT e h1 i).1) m j f,h.b.more aLM k (λ_ e=>(cJ e).2.1) (λ_ _ _ e h1 i=>(wT e h1 i).2.1) m j f,h.d.more aLL k (λ_ e=>(cJ e).2.2) (λ_ _ _ e h1 i=>(wT e h1 i).2.2) m j f⟩
def yO(c:Con)(l:a7):Prop:=∀i:Nat,i<Z c.ns->cD (atV (ofL c l) (i:Int)) (tO c (i:Int))=O
def aLB{s:Sta}:TD s=O↔yO s.c s.run:=by
 unfold TD yO
 grind[Cj]
def ao.dem{g:Gan}(h:ao g):(dem g).pos:=aNL h.v ⟨by have:=h.pods;omega,h.pods.2⟩
def yO.filter{c:Con}{l:a7}(q:Rn->Bool)(d:∀x∈l,ao x.g)(h:yO c l):yO c (l.filter q):=λi a=>
 AI.2 ((aLU (λx b=>(d x b).dem) q (i:Int)).2.1.trans (AI.1 (h i a)))
def yO.more{c:Con}{l:a7}{x:Rn}(f:∀y∈l,ao y.g)(n:ao x.g)(hm:E2 c (ofL c l) x.g.ten (Go.Proofs.YtenkdioaefckoaaGreatDoor.dem x.g)=O)(hl:bD c.ns x.g.ten=O)(h:yO c l):yO c (l++[x]):=by
 intro i d;by_cases hp:(i:Int)∈bT c.ns x.g.ten
 .have h1:=(TC (λy j=>(f y j).dem) n.dem hm _ hp).2;have e:aBC c x.g.ten (i:Int)=tO c (i:Int):=by
   unfold aBC tO;by_cases b:(i:Int)=x.g.ten
   .rw [bu b,b,bu hl]
   .rw [bt b,bt];intro k;unfold bT at hp
    grind[aBH]
  rw[<-e];exact h1
 .have e:atV (ofL c (l++[x])) (i:Int)=atV (ofL c l) (i:Int):=by
   have a:c.ok (i:Int):=⟨by omega,by simpa using d⟩
   rw[EB a,EB a,List.foldl_append];show sE c _ _ x=_;unfold sE;rw[bt];intro m;exact hp (by unfold bT;rw[List.mem_reverse];simpa using m.2)
  rw[e];exact h i d
def MH:∀{l ns:bf} {i:Nat},jW ns i l=O->∀k (h:k<Z l),mO (rlB ns ((i+k:Nat):Int)) (i+k) l[k]=O
 | [],_,_,_,k,h=>bv h (Nat.not_lt_zero _)
 | x::l,ns,i,h0,k,h=>by
  unfold jW at h0;by_cases a:mO (rlB ns i) i x=O
  .rw [bu a]at h0;cases k with
   | zero=>exact a
   | succ k=>
    have:=MH h0 k (by simpa using h)
    grind
  .rw [bt a]at h0;cases h0
def EL{c:Con}(h:bL c=0):yX c/\jW c.ns 0 c.ns=O/\c.hs.all jZ=true:=by
 unfold bL at h
 grind
def LH{v:V3}(h:aS v=O):v.pos:=by obtain⟨a,b,d⟩:=cJ h;exact⟨a.1,b.1,d.1⟩
theorem T4{c:Con}(h:bL c=0){i:Nat}(a:i<Z c.ns):(cO c.ns (i:Int)).n.pos/\(cO c.ns (i:Int)).b.pos:=by
 have h1:=MH (EL h).2.1 i a;have e:cO c.ns (i:Int)=c.ns[i]:=by unfold cO;rw[Bo,List.getElem?_eq_getElem a];rfl
 rw[e];unfold mO at h1;have f:∀v:V3,zB v=O->v.pos:=λv d=>by unfold zB at d;simp at d;exact⟨by omega,by omega,by omega⟩
 split at h1
 .cases h1
 .split at h1
  .simp only[Af]at h1;exact⟨LH h1.1,LH h1.2.1⟩
  grind
def aHd{c:Con}(h:bL c=0):yO c []:=by
 intro i k
 have f:c.ok (i:Int):=⟨by omega,by simpa using k⟩
 rw[EB f];have hs:∀p:V3->Int,Prj p->(∀v:V3,v.pos->0<=p v)->0<=p (tO c (i:Int)):=λp hp m=>by
  have j:0<=p (jN c.ns (i:Int) (mY c.ns))/\p (jN c.ns (i:Int) (mY c.ns))<=eW:=by
   unfold jN;have hz:=hp.zero;have a:∀e∈(bI c.ns (i:Int)).map λt=>p (atV (mY c.ns) t),0<=e:=λe g=>by
    obtain⟨t,l,rfl⟩:=Cq.1 g;have b:=jL c (i:Int) t l;rw[aHJ b];have d:t=(t.toNat:Int):=by have:=b.1;omega
    rw[d];exact m _ (T4 h b.2).1
   rw[OU hp,hz,A2 (Em _) d_ a];have:=nP a;unfold eW;omega
  unfold tO;split
  .rw [hp.add]
   grind[T4,wG]
  .exact j.1
 exact AI.2 ⟨hs _ aLN λ_ h=>h.1,hs _ aLM λ_ h=>h.2.1,hs _ aLL λ_ h=>h.2.2⟩
def aEj{c:Con}{free:a8}{g:Gan}(v:1<=g.pods)(hl:0<=g.pref/\g.pref<=g.lev/\g.lev<=3){x:Int×ax}(h:yK c free g=X x):(bE c.hs (x.2.headD 0)).f=x.1:=by
 have d:∀(i:List ax),fdG c free g i=X x->∃a∈i,x=((bE c.hs (a.headD 0)).f,inL free g a)/\¬ (Z (inL free g a):Int)<g.pods:=λi=>by
  induction i with
  | nil=>intro h;cases h
  | cons a r m=>
   intro h;unfold fdG at h
   grind
 have b:∀(n:Nat) (lv:Int),fdL c free g n lv=X x->∃e,lv<=e/\e<lv+n/\fdG c free g (gpL c e)=X x:=λn=>by
  induction n with
  | zero=>intro lv h;cases h
  | succ n m=>
   intro lv h;unfold fdL at h
   grind
 unfold yK at h;obtain⟨e,w,u,q⟩:=b _ _ h;obtain⟨a,o,rfl,l⟩:=d _ q;have j:(inL free g a).headD 0∈a:=by
  have hm:(inL free g a).headD 0∈inL free g a:=by
   cases s:inL free g a with
   | nil=>rw[s]at l;simp at l;omega
   | cons y t=>exact Aw ..
  rcases Y8 a [] _ hm with h|h
  .cases h
  .exact h.1
 obtain⟨_,p⟩:=QB (c:=c) (lv:=e) o_ o_;have k:=(RC o_ o_).1 ((p a o).2.2 _ j).2.2;unfold xY ofK at k;exact(Fv k).1.symm
abbrev Srt(l:ba):Prop:=l.Pairwise λa b=>a.seq<b.seq
structure RunP(c:Con)(now:Int)(l:a7):Prop where
 time:∀r∈l,r.at'<=r.st/\r.st<=now/\now<dQ r/\(bE c.hs (r.hs.headD 0)).f=r.fl
 plc:∀r∈l,aOY c r
 hst:HstOK c l
 quo:yO c l
def aCQ(c:Con)(nxt now:Int)(x:Pn):Prop:=dZ c x.g=0/\(cL c [] x.g).isNone=U/\(0<=x.seq/\x.seq<nxt)/\0<=x.at'/\x.at'<=now
structure OkS(s:Sta):Prop where
 head:hC s.c=O\/bL s.c=0
 now:0<=s.now/\s.now<=1099511627776
 nxt:1<=s.nxt/\s.nxt<=1099511627776
 hist:Z s.hist=Z s.c.ns
 few:Z s.pend+Z s.run<=32
 row:Srt s.pend
 gang:∀x∈s.pend++s.run.map Rn.pn,aCQ s.c s.nxt s.now x
 ids:((s.pend++s.run.map Rn.pn).map λx=>x.g.id).Nodup
 seqs:((s.pend++s.run.map Rn.pn).map λx=>x.seq).Nodup
 run:RunP s.c s.now s.run
def aA3{l:ba}:(l.map Pn.q).Pairwise (λa b=>a.seq<b.seq)↔Srt l:=by rw[Gu];exact Iff.rfl
def aLd{l:ba}(h:(l.map λx=>x.g.id).Nodup):aGp l=O↔Srt l:=by
 unfold aGp;rw[Q2.check_good];constructor
 .exact λg=>aA3.1 g.seq
 .refine λg=>⟨aA3.2 g,?_⟩
  rw[Gu];unfold Mx at h;rw[Gu]at h;exact h
def aBL(p:Q2.Pend):∀{l:List Q2.Pend},l.Pairwise (λa b=>a.seq<b.seq)->(∀x∈l,x.seq≠p.seq)->(Q2.insP p l).Pairwise (λa b=>a.seq<b.seq)/\∀x∈Q2.insP p l,x=p\/x∈l
 | [],_,_=>⟨List.pairwise_singleton _ _,λx c=>.inl (Dr.1 c)⟩
 | y::r,h,hn=>by
  rw[Bt]at h;unfold Q2.insP;by_cases d:p.seq<y.seq
  .rw [bu d]
   grind[Bt]
  .rw [bt d];obtain⟨h1,e⟩:=aBL p h.2 λx c=>hn x (Bb _ c);have f:=hn y (Aw ..);refine⟨Bt.2 ⟨λz hz=>?_,h1⟩,λx c=>?_⟩
   .rcases e z hz with rfl|hz
    .omega
    .exact h.1 z hz
   .rcases Az.1 c with rfl|c
    .exact .inr (Aw ..)
    .rcases e x c with rfl|c
     .exact .inl rfl
     .exact .inr (Bb _ c)
def aBm{l:ba}{p:Pn}(h:Srt l)(c:∀x∈l,x.seq≠p.seq):Srt (jO l p):=by refine aA3.1 ?_;rw[YM,Q2.putP_ins];refine(aBL p.q (aA3.2 h) λx b=>?_).1;obtain⟨y,a,rfl⟩:=Cq.1 b;exact c y a
def RY{l:ba}{a:Int}(h:Srt l):Srt (dS l a):=by
 unfold dS
 grind[List.eraseIdx_sublist]
structure SizOK(c:Con):Prop where
 ns:Z c.ns<=12
 hs:Z c.hs<=24
 half:0<=c.half/\c.half<=1048576
 age:0<=c.age/\c.age<=1048576
def NN{c:Con}:hC c=O↔c=⟨[],[],0,0⟩:=by obtain⟨a,b,d,e⟩:=c;unfold hC;simp
def BO{c:Con}(h:hC c=O\/bL c=0):SizOK c:=by
 rcases h with h|h
 .rw [NN]at h;subst h;exact⟨by simp,by simp,by decide,by decide⟩
 .have h1:=(EL h).1;unfold yX at h1;exact⟨by omega,by omega,by omega,by omega⟩
def ZT{c:Con}(h:hC c=O)(g:Gan):dZ c g≠0:=by rw[NN]at h;subst h;intro e;have h1:=(rM.1 e).2;unfold bD at h1;simp at h1;omega
def IC{c:Con}(h:hC c=O\/bL c=0){g:Gan}(a:dZ c g=0):bL c=0:=h.resolve_left λe=>ZT e g a
def aQC(s:Sta):ids s=(s.pend++s.run.map Rn.pn).map λx=>x.g.id:=by unfold ids;rw[Bi,Dz];rfl
def aKV(s:Sta):seqs s=(s.pend++s.run.map Rn.pn).map λx=>x.seq:=by unfold seqs;rw[Bi,Dz];rfl
def aHk{s:Sta}{p:Pn}:pnB s p=O↔aCQ s.c s.nxt s.now p:=by
 unfold pnB aCQ
 grind
def Q0{s:Sta}(h:OkS s):pI s=true:=by have a:=h.ids;rw[Bi,Cr]at a;unfold pI UY;simp only[Af,Bool.or_eq_true,bo,Cj];refine⟨⟨h.head,h.now,h.nxt,h.hist,h.few⟩,(aLd a.1).2 h.row,⟨λp hp=>aHk.2 (h.gang p (Di _ hp)),λr b=>?_⟩,by rw[aQC];exact h.ids,by rw[aKV];exact h.seqs,aLB.2 h.run.quo⟩;have d:=h.gang r.pn (Cy _ (Cf b));refine⟨aHk.2 d,?_⟩;obtain⟨f,g,e,j⟩:=h.run.time r b;unfold rnB;simp only[Af,bo];have c:=a.2.1;rw[Dz]at c;exact⟨⟨⟨f,g⟩,e⟩,aRu (IC h.head d.1) (λx i=>jI (h.gang x.pn (Cy _ (Cf i))).1) c h.run.hst b (h.run.plc r b),j⟩
def OkS.base{s:Sta}(h:OkS s):Base s where
 c:=⟨by have:=(BO h.head).ns;omega,by have:=(BO h.head).hs;omega⟩
 ids:=h.ids
 seqs:=h.seqs
 few:=by rw[Ah,Bw];have:=h.few;omega
 gang x hx:=by have hn:=jI (h.gang x hx).1;have:=hn.pods;have:=hn.id;exact⟨by omega,hn.v,by omega⟩
def aFq(s:Sta){l:ba}(h:(l.map λx=>x.seq).Nodup):Tot (ltP s) l:=by unfold Tot;unfold Mx at h;rw[Gu]at h;exact h.imp λh=>aMl s h
def OkS.st{s:Sta}(h:OkS s)(hl:LtF s.hist):StOK s:=by
 have hz:=BO h.head;have h1:=hz.ns;have l:=hz.hs;have h3:=hz.half;have j:=hz.age;have i:=h.hist;have f:=h.few;have k:=h.nxt
 have b:Sm s.run:=⟨by omega,λx d=>by
  have:=(h.run.plc x d).1;have:=(jI (h.gang x.pn (Cy _ (Cf d))).1).pods;have e:x.pn.g=x.g:=rfl;rw[e]at this
  omega⟩
 have a:=h.seqs;rw[Bi,Cr]at a;exact⟨h.base.c,⟨h.base,⟨by omega,by omega,by omega,b,by omega⟩,⟨h.base.c,h1,hl,by omega,h.now,by omega⟩,λp hp=>(h.gang p (Di _ hp)).2.2.2.1,aFq s a.1⟩,by omega,by omega⟩
def RunP.filter{c:Con}{now:Int}{l:a7}(q:Rn->Bool)(b:∀x∈l,ao x.g)(h:RunP c now l):RunP c now (l.filter q):=
 ⟨λr a=>h.time r (Fp.1 a).1,λr a=>h.plc r (Fp.1 a).1,h.hst.filter q b,h.quo.filter q b⟩
def OkS.needs{s:Sta}(h:OkS s):∀x∈s.run,ao x.g:=λx a=>jI (h.gang x.pn (Cy _ (Cf a))).1
def OkS.part{s:Sta}(h:OkS s){pend:ba}{run:a7}{rest:ba}(hp:((pend++run.map Rn.pn)++rest).Perm (s.pend++s.run.map Rn.pn))(hs:Srt pend)(hr:RunP s.c s.now run):OkS {s with pend:=pend,run:=run} where
 head:=h.head
 now:=h.now
 nxt:=h.nxt
 hist:=h.hist
 few:=by
  have h1:=hp.length_eq;have h2:=h.few
  grind[Ah,Bw]
 row:=hs
 gang x hx:=h.gang x (hp.mem_iff.1 (Di _ hx))
 ids:=by have h1:=((hp.map λx=>x.g.id).nodup_iff).2 h.ids;rw[Bi,Cr]at h1;exact h1.1
 seqs:=by have h1:=((hp.map λx=>x.seq).nodup_iff).2 h.seqs;rw[Bi,Cr]at h1;exact h1.1
 run:=hr
theorem I4{α:Type}(q:α->Bool):∀(l:List α),(l.filter q++l.filter λx=>!q x).Perm l
 | []=>Fj _
 | x::l=>by
  have b:=I4 q l;by_cases a:q x=O
  .rw [Ga a,Fz (by rw[a];decide)];exact b.cons x
  .rw [Fz a,Ga (by simpa using a)];exact Gb.trans (b.cons x)
def OkS.wo{s:Sta}(h:OkS s)(q:Rn->Bool):OkS {s with run:=s.run.filter q}:=by
 refine h.part (pend:=s.pend) (run:=s.run.filter q) (rest:=(s.run.filter λx=>!q x).map Rn.pn) ?_ h.row (h.run.filter q h.needs)
 grind[Ag,Ds,I4]
def OkS.take{s:Sta}(h:OkS s)(a:Int):OkS {s with pend:=dS s.pend a}:=by
 have b:=h.run;rcases FU a s.pend with⟨_,e⟩|⟨A,p,B,c,f,d⟩
 .have:dS s.pend a=s.pend:=by unfold dS;rw[bu o_]
  rw[this];exact h
 .have e:dS s.pend a=A++B:=by
   unfold dS;rw[bt o_,d,c];show(A++p::B).eraseIdx (Z A)=_
   grind
  refine h.part (pend:=dS s.pend a) (run:=s.run) (rest:=[p]) ?_ (RY h.row) b
  grind[Ag]
structure RK(s:Sta)(r:Rd):Prop where
 row:Srt r.s.pend
 run:RunP s.c s.now r.s.run
def aj.gangA{s:Sta}{r:Rd}{rest:ba}(o:OkS s)(h:aj s r rest):∀x∈r.s.pend++r.s.run.map Rn.pn,aCQ s.c s.nxt s.now x:=λx a=>o.gang x (h.perm.mem_iff.1 a)
def aj.needs{s:Sta}{r:Rd}{rest:ba}(o:OkS s)(h:aj s r rest):∀x∈r.s.run,ao x.g:=λx a=>jI (h.gangA o x.pn (Cy _ (Cf a))).1
def RK.adm{s:Sta}{r:Rd}{p:Pn}{rest:ba}(o:OkS s)(h:aj s r (p::rest))(k:RK s r){x:Int×ax}(e:cL r.s.c r.s.run p.g=X x):RK s (zY r p x.1 x.2):=by
 have hp:=h.gangA o p (Di _ (h.sub p (Aw ..)));have b:=jI hp.1;have t:=IC o.head hp.1;rw[h.c]at e;unfold cL at e;split at e
 .rename_i hm;obtain⟨l,q⟩:=aIK b.v b.pods.1 b.lev e;have n:=aEj b.pods.1 b.lev e;obtain⟨i,j,w⟩:=V9.1 q;have d:=h.needs o;refine⟨RY k.row,⟨λy a=>?_,λy a=>?_,?_,?_⟩⟩
  .rcases Cc.1 a with a|a
   .exact k.run.time y a
   .rw [Dr.1 a];have:=hp.2.2.2;have:=b.run;have:=o.now;refine⟨by show p.at'<=r.s.now;rw[h.now];omega,by show r.s.now<=s.now;rw[h.now];omega,?_,n⟩;have m:=h.now;unfold dQ
    grind
  .rcases Cc.1 a with a|a
   .exact k.run.plc y a
   .rw [Dr.1 a];exact⟨i,j,λu f=>by grind[BR]⟩
  .exact k.run.hst.more t d b λu f=>(l u f).2.2
  .exact k.run.quo.more d b hm (rM.1 hp.1).2
 .cases e
def VD(run:a7):∀(ids:ax) (r:Rd),Srt r.s.pend->((ids.map (λid=>(xOf run id).pn)++r.s.pend).map λx=>x.seq).Nodup->Srt (ids.foldl (dU run) r).s.pend
 | [],_,h,_=>h
 | id::ids,r,h,hn=>by
  rw[Ap];have hp:=CT r.s.pend (xOf run id).pn;rw[Bf,List.cons_append,Bf,Ci]at hn;refine VD run ids (dU run r id) (aBm h λx a e=>hn.1 ?_) ?_
  .have e:x.seq=(xOf run id).pn.seq:=e;rw[<-e];exact Cf (Cy _ a)
  .have h1:(ids.map (λid=>(xOf run id).pn)++(dU run r id).s.pend).Perm ((xOf run id).pn::(ids.map (λid=>(xOf run id).pn)++r.s.pend)):=(Ds _ hp).trans Gb;refine((h1.map λx=>x.seq).nodup_iff).2 ?_;rw[Bf,Ci];exact hn
def RK.evic{s:Sta}{r:Rd}{rest:ba}(o:OkS s)(h:aj s r rest)(k:RK s r){ids:ax}(b:ids.Nodup)(a:∀id∈ids,0<=aO (bC id) r.s.run 0):RK s (gQ r ids):=by
 refine⟨VD r.s.run ids r k.row ?_,k.run.filter _ (h.needs o)⟩;have h1:=(TT (h.once o.base) b a).map Rn.pn;rw[Bi,Dz]at h1;have c:((ids.map (λid=>(xOf r.s.run id).pn)++r.s.pend)++(aB r.s.run ids).map Rn.pn).Perm (s.pend++s.run.map Rn.pn):=by refine Nb ?_ h.perm;refine(Dv _ Dx).trans ?_;rw[Ag];exact Ds _ h1
 have h3:=((c.map λx=>x.seq).nodup_iff).2 o.seqs;rw[Bi,Cr]at h3;exact h3.1
def RK.admR{s:Sta}{r:Rd}{p:Pn}{rest:ba}(o:OkS s)(h:aj s r (p::rest))(k:RK s r):RK s (Go.Proofs.YtenkdioaefckoaaGreatDoor.admR r p).1:=by
 unfold Go.Proofs.YtenkdioaefckoaaGreatDoor.admR;cases a:cL r.s.c r.s.run p.g with
 | none=>exact k
 | some x=>
  obtain⟨fl,hs⟩:=x;unfold CB;dsimp only;split
  .exact k
  .exact k.adm o h a
def RK.look{s:Sta}{r:Rd}{p:Pn}{rest:ba}(o:OkS s)(h:aj s r (p::rest))(k:RK s r):RK s (bM r p):=by
 unfold bM;split
 .exact k.admR o h
 .rename_i j;split
  .exact k
  .rename_i l;have a:r.head=false:=by grind
   have b:cL r.s.c r.s.run p.g=none:=by
    cases f:cL r.s.c r.s.run p.g with
    | none=>rfl
    | some x=>
     obtain⟨fl,hs⟩:=x;refine bv ?_ j;unfold Go.Proofs.YtenkdioaefckoaaGreatDoor.admR;rw[f];unfold CB;dsimp only;rw[a];rfl
   cases i:fG r.s.c r.s.run p.g with
   | none=>
    show RK s (qV r p _);cases nR r.s.c r.s.now r.s.run p.g with
    | none=>exact k
    | some n=>exact⟨k.row,k.run⟩
   | some ids=>
    obtain⟨_,d,_,e,_⟩:=xS o.base h b i;exact(k.evic o h d e).admR o (h.evic o.base d e)
def LZ{s:Sta}(o:OkS s):∀(L:ba) (r:Rd),FA s r L->RK s r->RK s (L.foldl bM r)
 | [],_,_,k=>k
 | p::L,r,h,k=>LZ o L (bM r p) (CO o.base r p L h) (k.look o h.1)
def OkS.round{s:Sta}(o:OkS s)(hl:LtF s.hist):OkS (mV s).s:=by
 have hst:=(o.st hl).run.start;have h1:=(A4 o.base (sP s) _ hst).1;have f:=LZ o (sP s) _ hst ⟨o.row,o.run⟩;have e:(mV s).s={s with pend:=(mV s).s.pend,run:=(mV s).s.run}:=by have a:=h1.c;have b:=h1.now;have c:=h1.nxt;have d:=h1.hist;change (mV s).s.c=s.c at a;change (mV s).s.now=s.now at b;change (mV s).s.nxt=s.nxt at c;change (mV s).s.hist=s.hist at d;rw[<-a,<-b,<-c,<-d]
 rw[e];refine o.part (rest:=[]) ?_ f.row f.run;rw[Ao];exact h1.perm
def XY{s:Sta}(o:OkS s)(hl:LtF s.hist):(mV s).s.hist=s.hist/\(mV s).s.nxt=s.nxt/\(mV s).s.c=s.c/\(mV s).s.now=s.now:=by have h1:=(A4 o.base (sP s) _ (o.st hl).run.start).1;exact⟨h1.hist,h1.nxt,h1.c,h1.now⟩
def aPe(h b:a6)(n half:Int):LtF (tkL h b n half):=by
 unfold tkL;have key:∀(l:a6) (i:Nat),LtF (dM (tkS b n half) l i):=λl=>by
  induction l with
  | nil=>intro i x a;cases a
  | cons y l c=>
   intro i x a;rcases Az.1 a with rfl|a
   .unfold tkS
    grind[F2,BD]
   .exact c (i+1) x a
 exact key h 0
def OkS.tick{s:Sta}(o:OkS s)(n:Int):OkS (iR s n).1/\(iR s n).1.nxt=s.nxt:=by
 unfold iR;split
 .exact ⟨o,rfl⟩
 .split
  .exact ⟨o,rfl⟩
  .have c:=o.wo λx=>decide (s.now+n<dQ x);have h:=o.now;refine⟨⟨c.head,⟨by show 0<=s.now+n;omega,by show s.now+n<=_;omega⟩,c.nxt,?_,c.few,c.row,λx i=>?_,c.ids,c.seqs,⟨λr g=>?_,c.run.plc,c.run.hst,c.run.quo⟩⟩,rfl⟩
   .show (Z (tkL _ _ _ _))=_;unfold tkL;rw[kZ];exact o.hist
   .obtain ⟨a,b,d,e,f⟩:=c.gang x i;exact⟨a,b,d,e,by grind⟩
   .obtain ⟨a,b,d,e⟩:=c.run.time r g;have j:=(Fp.1 g).2
    grind
def OkS.conf{s:Sta}(o:OkS s){c:Con}(d:bL c=0)(h:¬ 0<Z s.pend+Z s.run):OkS {s with c:=c,hist:=Ak (Z c.ns) 0}:=by have hp:s.pend=[]:=Cm.1 o_;have b:s.run=[]:=Cm.1 o_;obtain⟨g,now,nxt,pend,run,hist⟩:=s;dsimp only at hp b;subst hp b;refine⟨.inr d,o.now,o.nxt,by simp,by simp,Lu,λx f=>(by cases f),Ib,Ib,⟨λr b=>(by cases b),λr b=>(by cases b),?_,aHd d⟩⟩;have key:∀p:V3->Int,(∀v,aS v=O->0<=p v)->wH p c []:=λp a j e=>a _ (aAm d e);exact⟨key _ λ_ a=>(cJ a).1.1,key _ λ_ a=>(cJ a).2.1.1,key _ λ_ a=>(cJ a).2.2.1⟩
def aEl{a:Int}{l:ba}(h:fY a l<0):∀p∈l,p.g.id≠a:=by grind[FU]
def OkS.submit{s:Sta}(o:OkS s)(l:s.nxt<1099511627776)(g:Gan):OkS (dT s g).1/\(dT s g).1.nxt<=s.nxt+1/\s.nxt<=(dT s g).1.nxt:=by
 unfold dT;iterate 4 (split;· grind)
 rename_i h1 n h3 m;have h1:dZ s.c g=0:=Du.1 h1;refine⟨?_,Em _,by show s.nxt<=s.nxt+1;omega⟩;have hp:=CT s.pend ⟨g,s.nxt,s.now⟩;have h:(jO s.pend ⟨g,s.nxt,s.now⟩++s.run.map Rn.pn).Perm (⟨g,s.nxt,s.now⟩::(s.pend++s.run.map Rn.pn)):=Dv _ hp;have i:=o.now;have k:=o.nxt;refine⟨o.head,o.now,⟨by show 1<=s.nxt+1;omega,by show s.nxt+1<=_;omega⟩,o.hist,?_,aBm o.row λx f e=>?_,λx f=>?_,?_,?_,o.run⟩
 .have:=hp.length_eq
  grind[Al]
 .have:=(o.gang x (Di _ f)).2.2.1;have e:x.seq=s.nxt:=e;omega
 .rcases Az.1 (h.mem_iff.1 f)with rfl|f
  .refine ⟨h1,by grind,⟨by show 0<=s.nxt;omega,by show s.nxt<s.nxt+1;omega⟩,i.1,Em _⟩
  .obtain ⟨a,b,d,e⟩:=o.gang x f;exact⟨a,b,⟨d.1,by show x.seq<s.nxt+1;omega⟩,e⟩
 .refine ((h.map λx=>x.g.id).nodup_iff).2 (Ci.2 ⟨λhm=>?_,o.ids⟩);obtain⟨x,f,e⟩:=Cq.1 hm;have e:x.g.id=g.id:=e;rcases Cc.1 f with f|f
  .exact aEl o_ x f e
  .obtain ⟨r,j,rfl⟩:=Cq.1 f;have:=I0 s.run 0 r j e;omega
 .refine ((h.map λx=>x.seq).nodup_iff).2 (Ci.2 ⟨λhm=>?_,o.seqs⟩);obtain⟨x,f,e⟩:=Cq.1 hm;have:=(o.gang x f).2.2.1;have e:x.seq=s.nxt:=e;omega
structure OkT(s:Sta):Prop where
 ok:OkS s
 lt:LtF s.hist
def OkT.apply{s:Sta}(o:OkT s)(e:s.nxt<1099511627776)(x:Cmd):OkT (aC s x).1/\(aC s x).1.nxt<=s.nxt+1/\s.nxt<=(aC s x).1.nxt:=by
 have same:OkT s/\s.nxt<=s.nxt+1/\s.nxt<=s.nxt:=⟨o,by omega,Em _⟩
 unfold aC;split
 .exact same
 split
 .split
  .exact same
  .rename_i d;split
   .exact same
   .rename_i c;refine⟨⟨o.ok.conf (Du.1 d) c,λy b=>?_⟩,same.2⟩;have:=List.eq_of_mem_replicate b;omega
 split
 .obtain ⟨h1,a⟩:=o.ok.submit e x.g;refine⟨⟨h1,?_⟩,a⟩;have:(dT s x.g).1.hist=s.hist:=by
   unfold dT;iterate 4 (split;· rfl)
   rfl
  rw[this];exact o.lt
 split
 .obtain ⟨h1,a⟩:=o.ok.tick x.n;refine⟨⟨h1,?_⟩,by rw[a];exact same.2⟩;unfold iR;split
  .exact o.lt
  .split
   .exact o.lt
   .exact aPe _ _ _ _
 split
 .obtain ⟨h1,a,_⟩:=XY o.ok o.lt;refine⟨⟨o.ok.round o.lt,?_⟩,?_⟩
  .show LtF (mV s).s.hist;rw[h1];exact o.lt
  grind
 split
 .exact ⟨⟨o.ok.wo _,o.lt⟩,same.2⟩
 split
 .exact same
 .exact ⟨⟨o.ok.take _,o.lt⟩,same.2⟩
def aA2:OkT mA:=by
 refine⟨⟨.inl d_,by decide,by decide,rfl,by decide,Lu,λx b=>(by cases b),Ib,Ib,⟨λr a=>(by cases a),λr a=>(by cases a),⟨?_,?_,?_⟩,?_⟩⟩,λx b=>(by cases b)⟩
 all_goals exact λj c=>bv c (Nat.not_lt_zero _)
def two(a:Int)(b:Int)(x:Rn):Bool:=!((x.g.id==a)||(x.seq==b))
structure FairP(s:Sta):Prop where
 few:aT2 s.c s.now s.run=1
 pend:Z s.pend<=32
 row:aGp s.pend=O
 hist:Z s.hist=Z s.c.ns
 gang:∀p∈s.pend,aOD s.c.ns p.g≠0/\0<=p.at'/\p.at'<=s.now
 two:∀p∈s.pend,∀x∈s.run,x.g.id≠p.g.id/\x.seq≠p.seq
 once:s.run.Pairwise λa b=>a.g.id≠b.g.id/\a.seq≠b.seq
structure FairS(s:Sta):Prop where
 siz:SizOK s.c
 chk:hC s.c=O\/bL s.c=0
 now:0<=s.now/\s.now<=1099511627776
 nxt:1<=s.nxt/\s.nxt<=1099511627776
 few:Z s.pend+Z s.run<=32
 hist:Z s.hist=Z s.c.ns
 row:Srt s.pend
 ids:((s.pend++s.run.map Rn.pn).map λx=>x.g.id).Nodup
 seqs:((s.pend++s.run.map Rn.pn).map λx=>x.seq).Nodup
 need:∀x∈s.pend++s.run.map Rn.pn,ao x.g
 at':∀p∈s.pend,0<=p.at'/\p.at'<=s.now
 hs:∀x∈s.run,Z x.hs<=16
def Ev.eqb(x y:Ev):Bool:=(x.k==y.k)&&((x.id==y.id)&&((x.n==y.n)&&O))
def Pn.eqb(x y:Pn):Bool:=(x.g.id==y.g.id)&&((x.g.ten==y.g.ten)&&((x.g.pods==y.g.pods)&&((x.g.need.a==y.g.need.a)&&((x.g.need.b==y.g.need.b)&&((x.g.need.c==y.g.need.c)&&((x.g.run==y.g.run)&&((x.g.lev==y.g.lev)&&((x.g.pref==y.g.pref)&&((x.seq==y.seq)&&((x.at'==y.at')&&O))))))))))
def xN{α:Type}[DecidableEq α]{f:α->α->Bool}(c:∀x y,f x y=O↔x=y):∀(a b:List α),C8.eqL f a b=decide (a=b)
 | [],[]=>rfl
 | [],_::_=>rfl
 | _::_,[]=>rfl
 | x::r,y::s=>by
  show(f x y&&C8.eqL f r s)=_;rw[xN c r s];cases h:f x y with
  | true=>
   have:=(c x y).1 h;subst this;simp
  | false=>
   have:x≠y:=λe=>by rw[(c x y).2 e]at h;cases h
   simp[this]
def aHF(x y:Rn)(l:Z x.hs=Z y.hs)(n:Z x.hs<=1048576)(r:Bool):∀(m i:Nat),i+m=Z x.hs->decide (x.hs.drop i=y.hs.drop i)=r->
  DE E f87 (DA r) [(2,G2 0 0),(3,G2 1 0),(5,GE Is i)] [Do 85 x.cs,Do 85 y.cs]:=by
 have f:Z (iv x.hs)=Z x.hs:=by simp
 intro m;induction m with
 | zero=>
  intro i h a;rw[Ae o_,Ae o_]at a;have a:O=r:=a;subst a;exact tA
 | succ m d=>
  intro i h a;have c:i<Z x.hs:=o_;have b:i<Z y.hs:=o_;rw[Ac c,Ac b]at a;have j:=cK c;have k:=cK b;generalize x.hs[i]=u at j a;generalize y.hs[i]=v at k a;have next:=d (i+1) o_
  by_cases h1:u=v
  .have g:(u !=v)=false:=by simpa using h1
   have next:=next (by rw[<-a,h1];exact decide_eq_decide.2 ⟨λe=>by rw[e],λe=>(Fv e).2⟩)
   clear d a;exact tA
  .have g:(u !=v)=true:=by simpa using h1
   have a:U=r:=by rw[<-a,bp λe=>h1 (Fv e).1]
   subst a;clear d next
   exact tA
def aQi(x y:Rn)(u:Z x.hs<=1048576):bj 87 [x.av,y.av] (DA (decide (x=y))):=by
 have o:Z (iv x.hs)=Z x.hs:=by simp
 have p:Z (iv y.hs)=Z y.hs:=by simp
 have a:(U !=U)=false:=rfl;by_cases h1:x.g=y.g
 .have s:(!(Gan.eqb x.g y.g))=false:=by rw[Gan.eqb_eq.2 h1];rfl
  by_cases j:x.seq=y.seq
  .have q:(x.seq !=y.seq)=false:=by simpa using j
   by_cases h3:x.at'=y.at'
   .have m:(x.at' !=y.at')=false:=by simpa using h3
    by_cases d:x.st=y.st
    .have l:(x.st !=y.st)=false:=by simpa using d
     by_cases k:x.fl=y.fl
     .have i:(x.fl !=y.fl)=false:=by simpa using k
      by_cases n:Z x.hs=Z y.hs
      .have b:((Z (iv x.hs):Int) !=(Z (iv y.hs):Int))=false:=by rw[o,p,n];simp
       have c:=b;have t:decide (x.hs.drop 0=y.hs.drop 0)=decide (x=y):=by rw[Ca,Ca];obtain⟨v,z,J,Be,K,F⟩:=x;obtain⟨I,H,G,B,C,w⟩:=y;dsimp only at h1 j h3 d k;subst h1 j h3 d k;simp
       have next:=aHF x y n u _ (Z x.hs) 0 o_ t
       generalize decide (x=y)=r at *
       exact zqya6
      .have c:((Z (iv x.hs):Int) !=(Z (iv y.hs):Int))=true:=by rw[o,p];simp;omega
       have b:=a;rw[bp λe=>n (by rw[e])];exact zqya6
     .have c:(x.fl !=y.fl)=true:=by simpa using k
      have i:=a;have b:=a;rw[bp λe=>k (by rw[e])];exact zqya6
    .have c:(x.st !=y.st)=true:=by simpa using d
     have l:=a;have i:=a;have b:=a;rw[bp λe=>d (by rw[e])];exact zqya6
   .have c:(x.at' !=y.at')=true:=by simpa using h3
    have m:=a;have l:=a;have i:=a;have b:=a;rw[bp λe=>h3 (by rw[e])];exact zqya6
  .have c:(x.seq !=y.seq)=true:=by simpa using j
   have q:=a;have m:=a;have l:=a;have i:=a;have b:=a;rw[bp λe=>j (by rw[e])];exact zqya6
 .have c:(!(Gan.eqb x.g y.g))=true:=by
   cases h:Gan.eqb x.g y.g with
   | false=>rfl
   | true=>exact bv (Gan.eqb_eq.1 h) h1
  have s:=a;have q:=a;have m:=a;have l:=a;have i:=a;have b:=a;rw[bp λe=>h1 (by rw[e])];exact zqya6
def aF3(a b:a7)(n:Z a=Z b)(hs:Sm a)(r:Bool):∀(m i:Nat),i+m=Z a->decide (a.drop i=b.drop i)=r->
  DE E f52 (DA r) [(0,CA 14 (rav a) J0),(1,CA 14 (rav b) J0),(5,GE Is i)] []:=by
 have j:Z (rav a)=Z a:=by simp
 have hl:=hs.1;intro m;induction m with
 | zero=>
  exact zqya18
 | succ m h=>
  intro i k c;have f:i<Z a:=o_;have d:i<Z b:=o_;rw[Ac f,Ac d]at c;have l:=cH f;have o:=cH d;have g:=aQi a[i] b[i] (hs.at f);generalize a[i]=u at l c g;generalize b[i]=v at o c g;have next:=h (i+1) o_
  by_cases h1:u=v
  .rw [bq h1]at g;have next:=next (by rw[<-c,h1];exact decide_eq_decide.2 ⟨λe=>by rw[e],λe=>(Fv e).2⟩)
   clear h c;exact tA
  .rw [bp h1]at g;have c:U=r:=by rw[<-c,bp λe=>h1 (Fv e).1]
   subst c;clear h next
   exact tA
def aPA(a b:a7)(hs:Sm a):bj 52 [CA 14 (rav a) J0,CA 14 (rav b) J0] (DA (decide (a=b))):=by
 have c:Z (rav a)=Z a:=by simp
 have d:Z (rav b)=Z b:=by simp
 by_cases h1:Z a=Z b
 .have h:((Z (rav a):Int) !=(Z (rav b):Int))=false:=by rw[c,d,h1];simp
  have next:=aF3 a b h1 hs _ (Z a) 0 o_ (show _=decide (a=b) by rw[Ca,Ca])
  generalize decide (a=b)=r at *
  exact c_ f52 λ_=>zW
 .have h:((Z (rav a):Int) !=(Z (rav b):Int))=true:=by rw[c,d];simp;omega
  rw[bp λe=>h1 (by rw[e])];exact c_ f52 λ_=>zW
def aH7(a b:a6)(n:Z a=Z b)(hl:Z a<=1048576)(r:Bool):∀(m i:Nat),i+m=Z a->decide (a.drop i=b.drop i)=r->
  DE E f53 (DA r) [(0,CA 1 (fv a) J0),(1,CA 1 (fv b) J0),(5,GE Is i)] []:=by
 have h:Z (fv a)=Z a:=by simp
 intro m;induction m with
 | zero=>
  exact zqya18
 | succ m g=>
  intro i k c;have f:i<Z a:=o_;have d:i<Z b:=o_;rw[Ac f,Ac d]at c;have l:(fv a)[i]? =X (uu a[i]):=by simp[f]
  have o:(fv b)[i]? =X (uu b[i]):=by simp[d]
  generalize a[i]=u at l c;generalize b[i]=v at o c;have next:=g (i+1) o_
  by_cases h1:u=v
  .have j:((u:Int) !=(v:Int))=false:=by simp[h1]
   have next:=next (by rw[<-c,h1];exact decide_eq_decide.2 ⟨λe=>by rw[e],λe=>(Fv e).2⟩)
   clear g c;exact tA
  .have j:((u:Int) !=(v:Int))=true:=by simp;omega
   have c:U=r:=by rw[<-c,bp λe=>h1 (Fv e).1]
   subst c;clear g next
   exact tA
def aQt(a b:a6)(hl:Z a<=1048576):bj 53 [CA 1 (fv a) J0,CA 1 (fv b) J0] (DA (decide (a=b))):=by
 have c:Z (fv a)=Z a:=by simp
 have d:Z (fv b)=Z b:=by simp
 by_cases h1:Z a=Z b
 .have h:((Z (fv a):Int) !=(Z (fv b):Int))=false:=by rw[c,d,h1];simp
  have next:=aH7 a b h1 hl _ (Z a) 0 o_ (show _=decide (a=b) by rw[Ca,Ca])
  generalize decide (a=b)=r at *
  exact c_ f53 λ_=>zW
 .have h:((Z (fv a):Int) !=(Z (fv b):Int))=true:=by rw[c,d];simp;omega
  rw[bp λe=>h1 (by rw[e])];exact c_ f53 λ_=>zW
def aA9(a b:Sta):Bool:=(a.now==b.now)&&((a.nxt==b.nxt)&&(C8.sameC a.c b.c&&(decide (a.pend=b.pend)&&(decide (a.run=b.run)&&decide (a.hist=b.hist)))))
def aOy:∀{a b:ba},a.map Pn.q=b.map Pn.q->a=b
 | [],[],_=>rfl
 | [],_::_,h=>by cases h
 | _::_,[],h=>by cases h
 | x::a,y::b,h=>by obtain⟨h1,c⟩:=Fv h;rw[aOy c];obtain⟨⟨_,_,_,⟨_,_,_⟩,_,_,_⟩,_,_⟩:=x;obtain⟨⟨_,_,_,⟨_,_,_⟩,_,_,_⟩,_,_⟩:=y;simp only[Pn.q,Q2.Pend.mk.injEq]at h1;obtain⟨rfl,rfl,rfl,rfl,rfl,rfl,rfl,rfl,rfl,rfl,rfl⟩:=h1;rfl
def wR(a b:Sta)(hs:Sm a.run)(l:Z a.hist<=1048576)(r:Bool)(d:aA9 a b=r):bj 15 [a.av,b.av] (DA r):=by
 have h1:=C8.rsame_c a.c b.c;have n:=Q2.same_ok (a.pend.map Pn.q) (b.pend.map Pn.q);rw[show decide (a.pend.map Pn.q=b.pend.map Pn.q)=decide (a.pend=b.pend)from decide_eq_decide.2 ⟨aOy,λe=>by rw[e]⟩,rA,rA]at n;have h3:=aPA a.run b.run hs;have o:=aQt a.hist b.hist l;unfold aA9 at d;generalize C8.sameC a.c b.c=q1 at *
 generalize decide (a.pend=b.pend)=q2 at *
 generalize decide (a.run=b.run)=q3 at *
 generalize decide (a.hist=b.hist)=q4 at *
 have m:(O&&U)=false:=rfl;have j:(O&&O)=true:=rfl;cases i:(a.now==b.now)with
 | false=>
  rw[i]at d;have d:U=r:=d;subst d;have k:=i;have i:=j;have h:=j;exact zqya9
 | true=>
  rw[i]at d;cases h:(a.nxt==b.nxt)with
  | false=>
   rw[h]at d;have d:U=r:=d;subst d;have k:=h;have h:=j;exact zqya9
  | true=>
   rw[h]at d;have k:=m;cases q1 with
   | false=>
    exact zqya22
   | true=>
    cases q2 with
    | false=>
     exact zqya22
    | true=>
     cases q3 with
     | false=>
      exact zqya22
     | true=>
      have d:q4=r:=d;subst d;exact zqya9
def LX{c d:Con}:C8.sameC c d=O↔c=d:=by obtain⟨e,i,g,b⟩:=c;obtain⟨h,a,j,k⟩:=d;unfold C8.sameC;rw[xN (f:=Nod.eqb) (λ_ _=>Nod.eqb_eq),xN (f:=Hos.eqb) (λ_ _=>Hos.eqb_eq)];simp
def sK(a:Sta):aA9 a a=true:=by unfold aA9;rw[LX.2 rfl];simp
def cI(n:Int):Cmd:=⟨5,aEL,Gan.zero,n⟩
open Go.ChangeShapes Go.WideShapes Go.ChangeAt Go.RowKit
set_option maxRecDepth 100000
section
variable {N:Nat}
end
section
variable {N:Nat}
end
structure StaSm(s:Sta):Prop where
 c:s.c.sm
 pend:Z s.pend<=1048576
 run:Sm s.run
 hist:Z s.hist<=1048576
 fix:∀x∈s.hist,x<18446744073709551616
structure CmSm(x:Cmd):Prop where
 c:x.c.sm
 n: -9223372036854775808<=x.n/\x.n<=9223372036854775807
section
variable {H:Type} {enc:TypeId×Value->H} {W:World} {r:Reach} {base b0:Nat} {spare:Nat->Bool} {held:Bool} {v:Value} {d:DataW H} {ps:List MemPlace}
end
end Go.Proofs.YtenkdioaefckoaaGreatDoor
