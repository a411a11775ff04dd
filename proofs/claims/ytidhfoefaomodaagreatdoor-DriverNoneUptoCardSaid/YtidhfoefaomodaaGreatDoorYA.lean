/- Part 10 of what the statement rests on. -/
import Derived.Test.YtidhfoefaomodaaGreatDoorRows
import Derived.Test.YtidhfoefaomodaaGreatDoorDA
set_option linter.all false
set_option maxHeartbeats 1000000
open And renaming intro->Ac
open Bool renaming and_eq_true->Ad,and_false->Db,not_eq_true'->Cx,or_eq_true->Fc,true_and->Cy
open Decidable renaming byContradiction->Lk,not_not->Fh
open Iff renaming rfl->Np
open Int renaming le_refl->Dh,le_trans->Fk,mul_le_mul_of_nonneg_left->Ko,mul_nonneg->Ld,toNat_natCast->Bt,toNat_of_nonneg->Ky
open List renaming Nodup->Li,all_eq_true->Cq,any_eq_true->Fq,append_assoc->Af,append_nil->Av,cons_append->Cc,count_eq_zero->Le,count_le_length->Mx,count_pos_iff->Lg,drop->Hi,drop_eq_getElem_cons->Ae,drop_eq_nil_of_le->Ah,drop_zero->Ci,eraseIdx_append_of_length_le->Jg,eraseIdx_eq_take_drop_succ->Ga,filter_cons->Ho,filter_cons_of_neg->Fs,filter_cons_of_pos->Ft,filter_eq_self->Gq,filter_sublist->Lb,foldl_append->Jn,foldl_cons->Ba,getElem?_eq_getElem->Aa,getElem_mem->Bh,length->Lm,length_append->Ai,length_cons->Al,length_eq_zero_iff->Cl,length_eraseIdx->Kj,length_map->Ch,length_pos_iff->Dy,length_singleton->Mv,map_append->Bm,map_cons->Bl,map_drop->Ix,map_map->Dx,map_take->Gh,mem_append->Az,mem_append_left->Dd,mem_append_right->Cu,mem_cons->Bb,mem_cons_of_mem->Bd,mem_cons_self->Ap,mem_filter->Fm,mem_map->Ca,mem_map_of_mem->Cm,mem_range->Hn,mem_reverse->Iu,mem_singleton->Dj,mem_singleton_self->Jf,nodup_append->Bz,nodup_cons->Ce,nodup_nil->Hr,pairwise_cons->Cv,pairwise_map->Fx,pairwise_singleton->Je,perm_append_comm->Dw,perm_middle->Ej,replicate->Aj,take->Ia,take_append_drop->Bq
open List.Pairwise renaming imp->Jk,nil->Ln
open List.Perm renaming append_left->Dv,append_right->Dt,refl->Jl,trans->Mr
open List.cons renaming inj->Gi
open Nat renaming le_refl->Bc,le_succ->Hv,le_trans->Cz,mul_le_mul->Gj,sub_self->Mm,zero_add->Bo
open Option renaming isSome_iff_exists->Da
namespace Go.Proofs.YtidhfoefaomodaaGreatDoor
open Go Go.AW Go.Proofs
set_option maxRecDepth 10000
def zqya0 {P:Prop} (h:P:=by
 obtain ⟨k,c,g,n⟩:=x;dsimp only at a;subst a
 exact c_ Tryz.f134 λ_=>zW):P:=h
def zqya1 {P:Prop} (h:P:=by
 refine cT (E:=E) (fn:=Tryz.f136) (g:=.full 1 _ _) λ_=>?_
 exact zW):P:=h
def zqya2 {P:Prop} (h:P:=by
 have b:rav (s.run++[⟨p.g,p.seq,p.at',s.now,x.1,x.2⟩])=rav s.run++[Rn.av ⟨p.g,p.seq,p.at',s.now,x.1,x.2⟩]:=by simp
 unfold rdS rdO rdC ruV at a;dsimp only at a;rw [b] at a;generalize dI s.pend p.g.id=pq at *
 clear b e;refine cT (E:=(Er [] [60,64,86,87,88])) (fn:=Tryz.f112) (g:=.full 3 _ _) λ_=>?_
 exact zW):P:=h
def zqya3 {P:Prop} (h:P:=by exact c_ Tryz.f142 λ_=>zW):P:=h
def zqya4 {P:Prop} (h:P:=by
 refine cT (E:=(Er [] [39,40,59,60,61,62,63,64])) (fn:=Tryz.f52) (g:=.full 3 _ _) λ_=>?_
 exact zW):P:=h
def zqya5 {P:Prop} (h:P:=by exact c_ Tryz.f29 λ_=>zW):P:=h
def zqya6 {P:Prop} (h:P:=by
 refine cT (E:=(Eo [6] [])) (fn:=Tryz.f139) (g:=.full 1 _ _) λ_=>?_
 exact zW):P:=h
def zqya7 {P:Prop} (h:P:=by
 refine cT (E:=(Er [] [60,64,86,87,88])) (fn:=Tryz.f112) (g:=.full 3 _ _) λ_=>?_
 exact zW):P:=h
def zqya8 {P:Prop} (h:P:=by
 intro i a o r b;rw [Ah o_] at b;have b:a++[]=R:=b;rw [Av] at b;subst b;refine gV ?_
 exact zW):P:=h
def zqya9 {P:Prop} (h:P:=by
 refine cT (E:=(Er [] [24,38])) (fn:=Tryz.f135) (g:=.full 1 _ _) λ_=>?_
 exact zW):P:=h
def zqya10 {P:Prop} (h:P:=by
 rw [if_neg (by rw [c];decide)] at a;rw [c] at g;have ao:=e a
 refine gV ?_
 exact zW):P:=h
def zqya11 {P:Prop} (h:P:=by
 refine cT (E:=E) (fn:=Tryz.f137) (g:=.full 2 _ _) λ_=>?_
 exact zW):P:=h
def zqya12 {P:Prop} (h:P:=by
 have d:false=r:=d;subst d
 exact zqya5):P:=h
def zqya13 {P:Prop} (h:P:=by
 intro i h a;rw [Ah o_] at a;have a: -1=r:=a;subst a;refine gV ?_
 exact zW):P:=h
def zqya14 {P:Prop} (h:P:=by exact c_ Tryz.f71 λ_=>zW):P:=h
def zqya15 {P:Prop} (h:P:=by
 rw [if_pos c] at a;rw [c] at g;subst a;refine gV ?_
 exact zW):P:=h
def zqya16 {P:Prop} (h:P:=by
 rw [Ah o_,Ah o_] at c;have c:true=r:=c;subst c;refine gV ?_
 exact zW):P:=h
def JP (l:List Nod) (h:l.length<=1048576):ar 104 [.slice 11 (nav l) .no] [] (.ret (.slice 11 (nav l) .no)) []:=by
 have a:(nav l).length=l.length:=by simp
 refine c_ Tryz.f104 λ_=>?_;refine gV ?_;intro b c;refine gV ?_;refine ⟨λ h=>?_,λ h=>?_⟩
 .have h:b=true:=h;have e:nav l=[]:=c h;refine gV ?_;rw [e]
 .have h:b=false:=h;exact zW
def JQ (l:List Hos) (h:l.length<=1048576):ar 105 [.slice 6 (hav l) .no] [] (.ret (.slice 6 (hav l) .no)) []:=by
 have a:(hav l).length=l.length:=by simp
 refine c_ Tryz.f105 λ_=>?_;refine gV ?_;intro b c;refine gV ?_;refine ⟨λ h=>?_,λ h=>?_⟩
 .have h:b=true:=h;have e:hav l=[]:=c h;refine gV ?_;rw [e]
 .have h:b=false:=h;exact zW
def RT (l:List Pn) (h:l.length<=1048576):ar 106 [.slice 11 (pnv l) .no] [] (.ret (.slice 11 (pnv l) .no)) []:=by
 have a:(pnv l).length=l.length:=by simp
 refine c_ Tryz.f106 λ_=>?_;refine gV ?_;intro b c;refine gV ?_;refine ⟨λ h=>?_,λ h=>?_⟩
 .have h:b=true:=h;have e:pnv l=[]:=c h;refine gV ?_;rw [e]
 .have h:b=false:=h;exact zW
def RU (l:List Nat) (h:l.length<=1048576):ar 107 [.slice 1 (fv l) .no] [] (.ret (.slice 1 (fv l) .no)) []:=by
 have a:(fv l).length=l.length:=by simp
 refine c_ Tryz.f107 λ_=>?_;refine gV ?_;intro b c;refine gV ?_;refine ⟨λ h=>?_,λ h=>?_⟩
 .have h:b=true:=h;have e:fv l=[]:=c h;refine gV ?_;rw [e]
 .have h:b=false:=h;exact zW
abbrev xB (l:List Rn):List ab:=[.row 0 14 107 (rav l)]
def ZK (l:List Rn) (hs:Sm l) (ids:List Int) (p:ids.length<=1048576) (R:List Rn):∀ (m i:Nat) (a:List Rn),i+m=l.length->a.length<=i->a++aE (l.drop i) ids=R->
  To (Er [5] []) fWo (.full 0 (.ret (.row 0 0)) (xB R)) (.head (stk fWo 0) [(1,.slice 1 (iv ids) .no),(5,.row 0 0),(8,.slice 14 (rav l) .no),(9,.int .i64 ((rav l).length:Nat)),(10,ii i)] (xB a)):=by
 have n:(rav l).length=l.length:=by simp
 have hl:=hs.1;intro m;induction m with
 | zero=>
  exact zqya8
 | succ m f=>
  intro i a o r b;have c:i<l.length:=o_;have j:=hs.at c;rw [Ae c] at b;generalize q:l[i]=x at b j;have get:(rav l)[i]? =some x.av:=(dL c).trans (by rw [q]);have s:(rav a).length=a.length:=by simp
  have h:=wP ids p x.g.id;cases d:inB x.g.id ids with
  | true=>
   rw [d] at h;rw [mA d] at b;have ao:=f (i+1) a o_ o_ b
   refine gV ?_;exact zW
  | false=>
   rw [d] at h;rw [lZ d] at b;have ao:=f (i+1) (a++[x]) o_ q_ (by rw [Af];exact b)
   have e:rav (a++[x])=rav a++[x.av]:=by simp
   unfold xB at ao
   rw [e] at ao
   refine gV ?_;have k:=AF x j;exact zW
def aIs (l:List Rn) (hs:Sm l) (ids:List Int) (a:ids.length<=1048576):ar 108 [.slice 14 (rav l) .no,.slice 1 (iv ids) .no] [] (.ret (.row 0 0)) (xB (aE l ids)):=by have h1:=ZK l hs ids a _ l.length 0 [] o_ s_ rfl;refine cT (E:=(Er [5] [])) (fn:=Tryz.f108) (g:=.full 0 _ _) λ_=>?_;exact zW
def aEc (l:List Rn) (hs:Sm l):ar 108 [.slice 14 (rav l) .no,.nilslice] [] (.ret (.row 0 0)) (xB l):=by have h:=aIs l hs [] s_;rw [fQ] at h;exact aA.nil2 h
abbrev LN:List ab:=[.tail 0 14 107]
def ZM (l:List Rn) (hs:Sm l) (ids:List Int) (p:ids.length<=1048576) (R:List Rn):∀ (m i:Nat) (a:List Rn),i+m=l.length->a.length<=i->a++aE (l.drop i) ids=R->
  To (Eo [5] []) fWo (.full 0 (.ret (.slice 14 (rav R) (.own 0 0))) LN) (.head (stk fWo 0) [(1,.slice 1 (iv ids) .no),(5,.slice 14 (rav a) (.own 0 0)),(8,.slice 14 (rav l) .no),(9,.int .i64 ((rav l).length:Nat)),(10,ii i)] LN):=by
 have n:(rav l).length=l.length:=by simp
 have hl:=hs.1;intro m;induction m with
 | zero=>
  exact zqya8
 | succ m h=>
  intro i a o r b;have c:i<l.length:=o_;have k:=hs.at c;rw [Ae c] at b;generalize q:l[i]=x at b k;have get:(rav l)[i]? =some x.av:=(dL c).trans (by rw [q]);have s:(rav a).length=a.length:=by simp
  have j:=wP ids p x.g.id;cases d:inB x.g.id ids with
  | true=>
   rw [d] at j;rw [mA d] at b;have ao:=h (i+1) a o_ o_ b
   refine gV ?_;exact zW
  | false=>
   rw [d] at j;rw [lZ d] at b;have ao:=h (i+1) (a++[x]) o_ q_ (by rw [Af];exact b)
   have e:rav (a++[x])=rav a++[x.av]:=by simp
   rw [e] at ao
   refine gV ?_;have f:=AF x k;exact zW
def ZL (l:List Rn) (hs:Sm l) (ids:List Int) (a:ids.length<=1048576):ar 108 [.slice 14 (rav l) .no,.slice 1 (iv ids) .no] [] (.ret (.slice 14 (rav (aE l ids)) (.own 0 0))) LN:=by have h1:=ZM l hs ids a _ l.length 0 [] o_ s_ rfl;refine cT (E:=(Eo [5] [])) (fn:=Tryz.f108) (g:=.full 0 _ _) λ_=>?_;exact zW
def aEd (l:List Rn) (hs:Sm l):ar 108 [.slice 14 (rav l) .no,.nilslice] [] (.ret (.slice 14 (rav l) (.own 0 0))) LN:=by have h:=ZL l hs [] s_;rw [fQ] at h;exact aA.nil2 h
structure StaSm' (s:Sta):Prop where
 ns:s.c.ns.length<=1048576
 hs:s.c.hs.length<=1048576
 pend:s.pend.length<=1048576
 run:Sm s.run
 hist:s.hist.length<=1048576
def Sta.avR (s:Sta) (k g:Nat):aa:=.agg [.slice 11 (nav s.c.ns) .no,.slice 6 (hav s.c.hs) .no,ii s.c.half,ii s.c.age,ii s.now,ii s.nxt,.slice 11 (pnv s.pend) .no,.row k g,.slice 1 (fv s.hist) .no]
def Sta.avO (s:Sta) (k g:Nat):aa:=.agg [.slice 11 (nav s.c.ns) .no,.slice 6 (hav s.c.hs) .no,ii s.c.half,ii s.c.age,ii s.now,ii s.nxt,.slice 11 (pnv s.pend) .no,.slice 14 (rav s.run) (.own k g),.slice 1 (fv s.hist) .no]
def aHt (s:Sta) (h:StaSm' s):ar 50 [s.av] [] (.ret (s.avO 0 0)) LN:=by have h1:=JP s.c.ns h.ns;have b:=JQ s.c.hs h.hs;have h3:=RT s.pend h.pend;have d:=RU s.hist h.hist;have a:=aEd s.run h.run;refine cT (E:=E) (fn:=Tryz.f50) (g:=.full 0 _ _) λ_=>?_;exact zW
def AI (s:Sta) (h:StaSm' s):ar 133 [s.av] [] (.ret (s.avR 0 0)) (xB s.run):=by have h1:=JP s.c.ns h.ns;have b:=JQ s.c.hs h.hs;have h3:=RT s.pend h.pend;have d:=RU s.hist h.hist;have a:=aEc s.run h.run;refine cT (E:=E) (fn:=Tryz.f133) (g:=.full 0 _ _) λ_=>?_;exact zW
abbrev rdC (r:Rd) (run:aa) (ge:Nat):List aa:=[.slice 11 (nav r.s.c.ns) .no,.slice 6 (hav r.s.c.hs) .no,ii r.s.c.half,ii r.s.c.age,ii r.s.now,ii r.s.nxt,.slice 11 (pnv r.s.pend) .no,run,.slice 1 (fv r.s.hist) .no,.slice 3 (evv r.ev) (.own 1 ge),.bool r.head,ii r.start]
abbrev rdO (r:Rd) (run:aa) (ge:Nat):ab:=.cells 111 (rdC r run ge)
abbrev evT (g:Nat):ab:=.tail g 3 41
abbrev ruT (g:Nat):ab:=.tail g 14 107
abbrev ruV (l:List Rn) (k g:Nat):aa:=.slice 14 (rav l) (.own k g)
abbrev rdS (r:Rd) (ge gr:Nat):List ab:=[rdO r (ruV r.s.run 2 gr) ge,evT ge,ruT gr]
def kZ (r:Rd) (e:Ev):Rd:=⟨r.s,r.ev++[e],r.head,r.start⟩
def IQ (r:Rd) (k id n:Int) (hl:r.ev.length<=1048576):ar 116 [.ref 0 0,ii k,ii id,ii n] (rdS r 0 0) (.ret (.tup [])) (rdS (kZ r ⟨k,id,n⟩) 1 0):=by
 have a:(evv r.ev).length=r.ev.length:=by simp
 have e:evv (r.ev++[⟨k,id,n⟩])=evv r.ev++[Ev.av ⟨k,id,n⟩]:=by simp
 unfold kZ;show aA _ _ _ _ _ [.cells _ [_,_,_,_,_,_,_,_,_,.slice 3 (evv (r.ev++[⟨k,id,n⟩])) (.own 1 1),_,_],_,_];rw [e];refine cT (E:=E) (fn:=Tryz.f116) (g:=.full 3 _ _) λ_=>?_;exact zW
def MF (r:Rd) (l:List Rn) (k id n:Int) (hl:r.ev.length<=1048576):ar 116 [.ref 0 0,ii k,ii id,ii n] [rdO r (.slice 14 (rav l) .no) 0,evT 0] (.ret (.tup [])) [rdO (kZ r ⟨k,id,n⟩) (.slice 14 (rav l) .no) 1,evT 1]:=by
 have a:(evv r.ev).length=r.ev.length:=by simp
 have e:evv (r.ev++[⟨k,id,n⟩])=evv r.ev++[Ev.av ⟨k,id,n⟩]:=by simp
 unfold kZ;show aA _ _ _ _ _ [.cells _ [_,_,_,_,_,_,_,_,_,.slice 3 (evv (r.ev++[⟨k,id,n⟩])) (.own 1 1),_,_],_];rw [e];refine cT (E:=E) (fn:=Tryz.f116) (g:=.full 2 _ _) λ_=>?_;exact zW
def wD {n a:Nat} (h:n<=1048576) (b:a<=1000):zX (n+1) a:=Ac (by simp only [maxLen];omega) (Cz (Gj (show n+1<=1048577 by omega) b) d_)
def aM0 (r:Rd) (p:Pn) (a:ar 16 [r.s.c.av,.slice 14 (rav r.s.run) .no,p.g.av] [] (.ret (fdA none)) []):
  ar 112 [.ref 0 0,p.av] (rdS r 0 0) (.ret (.bool false)) (rdS r 0 0):=by
 obtain ⟨s,ev,head,start⟩:=r;exact zqya7
def aM2 (s:Sta) (ev:List Ev) (start:Int) (p:Pn) (x:Int×List Int) (a:ar 16 [s.c.av,.slice 14 (rav s.run) .no,p.g.av] [] (.ret (fdA (some x))) [])
  (hm:ar 17 [ii s.now,p.g.av,ii start] [] (.ret (.bool false)) []):
  ar 112 [.ref 0 0,p.av] (rdS ⟨s,ev,true,start⟩ 0 0) (.ret (.bool false)) (rdS ⟨s,ev,true,start⟩ 0 0):=by
 exact zqya7
set_option maxHeartbeats 1000000 in
def aMZ (s:Sta) (ev:List Ev) (start:Int) (p:Pn) (x:Int×List Int) (j:ar 16 [s.c.av,.slice 14 (rav s.run) .no,p.g.av] [] (.ret (fdA (some x))) []) (h:ev.length<=1000000) (hp:s.pend.length<=1000000) (d:(rav s.run).length<=1048576)
  (hm:ar 17 [ii s.now,p.g.av,ii start] [] (.ret (.bool true)) []):
  ar 112 [.ref 0 0,p.av] (rdS ⟨s,ev,true,start⟩ 0 0) (.ret (.bool true)) (rdS (OY ⟨s,ev,true,start⟩ p x.1 x.2) 1 1):=by
 have e:OY ⟨s,ev,true,start⟩ p x.1 x.2=kZ ⟨{s with pend:=dI s.pend p.g.id,run:=s.run++[⟨p.g,p.seq,p.at',s.now,x.1,x.2⟩]},ev,true,start⟩ ⟨1,p.g.id,x.1⟩:=rfl;have a:=IQ ⟨{s with pend:=dI s.pend p.g.id,run:=s.run++[⟨p.g,p.seq,p.at',s.now,x.1,x.2⟩]},ev,true,start⟩ 1 p.g.id x.1 (by show ev.length<=_;omega);have i:=qO s.pend p.g.id hp;rw [e];generalize kZ ⟨{s with pend:=dI s.pend p.g.id,run:=s.run++[⟨p.g,p.seq,p.at',s.now,x.1,x.2⟩]},ev,true,start⟩ ⟨1,p.g.id,x.1⟩=r2 at *
 exact zqya2
set_option maxHeartbeats 1000000 in
def aM1 (s:Sta) (ev:List Ev) (start:Int) (p:Pn) (x:Int×List Int) (d:ar 16 [s.c.av,.slice 14 (rav s.run) .no,p.g.av] [] (.ret (fdA (some x))) []) (i:ev.length<=1000000) (hp:s.pend.length<=1000000) (h:(rav s.run).length<=1048576):
  ar 112 [.ref 0 0,p.av] (rdS ⟨s,ev,false,start⟩ 0 0) (.ret (.bool true)) (rdS (OY ⟨s,ev,false,start⟩ p x.1 x.2) 1 1):=by
 have hm:=d;have e:OY ⟨s,ev,false,start⟩ p x.1 x.2=kZ ⟨{s with pend:=dI s.pend p.g.id,run:=s.run++[⟨p.g,p.seq,p.at',s.now,x.1,x.2⟩]},ev,false,start⟩ ⟨1,p.g.id,x.1⟩:=rfl;have a:=IQ ⟨{s with pend:=dI s.pend p.g.id,run:=s.run++[⟨p.g,p.seq,p.at',s.now,x.1,x.2⟩]},ev,false,start⟩ 1 p.g.id x.1 (by show ev.length<=_;omega);have j:=qO s.pend p.g.id hp;rw [e];generalize kZ ⟨{s with pend:=dI s.pend p.g.id,run:=s.run++[⟨p.g,p.seq,p.at',s.now,x.1,x.2⟩]},ev,false,start⟩ ⟨1,p.g.id,x.1⟩=r2 at *
 exact zqya2
def OX (r:Rd) (p:Pn) (k:r.s.c.sm) (hs:Sm r.s.run) (hp:r.s.pend.length<=1000000) (h:r.ev.length<=1000000) (j:0<=p.g.pods/\p.g.pods<=16):
  (admR r p=(r,false)/\ar 112 [.ref 0 0,p.av] (rdS r 0 0) (.ret (.bool false)) (rdS r 0 0))\/
  ((admR r p).2=true/\ar 112 [.ref 0 0,p.av] (rdS r 0 0) (.ret (.bool true)) (rdS (admR r p).1 1 1)):=by
 have b:(rav r.s.run).length<=1048576:=by simpa using hs.1
 have a:=wE r.s.c k r.s.run hs p.g j;have hm:=aHI r.s.now p.g r.start;unfold admR;cases i:cK r.s.c r.s.run p.g with
 | none=>
  rw [i] at a;exact .inl ⟨rfl,aM0 r p a⟩
 | some x=>
  rw [i] at a;obtain ⟨s,ev,head,start⟩:=r;cases head with
  | false=>exact .inr ⟨rfl,aM1 s ev start p x a h hp b⟩
  | true=>
   cases d:bmB s.now p.g start with
   | false=>
    have e:EZ ⟨s,ev,true,start⟩ p (some x)=(⟨s,ev,true,start⟩,false):=by unfold EZ;exact if_pos (by rw [d];rfl)
    rw [e];dsimp only at hm;rw [d] at hm;exact .inl ⟨rfl,aM2 s ev start p x a hm⟩
   | true=>
    have e:EZ ⟨s,ev,true,start⟩ p (some x)=(OY ⟨s,ev,true,start⟩ p x.1 x.2,true):=by unfold EZ;exact if_neg (by rw [d];simp)
    rw [e];dsimp only at hm;rw [d] at hm;exact .inr ⟨rfl,aMZ s ev start p x a h hp b hm⟩
def bU (id:Int) (x:Rn):Bool:=x.g.id==id
abbrev idF (n:Nat) (id:Int):aa:=.func (.func n) [] [.ptr [ii id]]
def QH (n:Nat) (id:Int) (d:∀ x:Rn,aA Tryz.prog n [x.av,.ptr [ii id]] [] (.ret (.bool (bU id x))) []) (l:List Rn) (hl:l.length<=1048576) (r:Int):∀ (m i:Nat),i+m=l.length->aR (bU id) (l.drop i) i=r->
  To E GS (.pure (.ret (ii r))) (.head (stk GS 0) [(0,.slice 14 (rav l) .no),(1,idF n id),(7,.int .i64 ((rav l).length:Nat)),(8,ii i)] []):=by
 have f:(rav l).length=l.length:=by simp
 intro m;induction m with
 | zero=>
  exact zqya13
 | succ m e=>
  intro i h a;have b:i<l.length:=o_;rw [Ae b] at a;have get:(rav l)[i]? =some l[i].av:=dL b;generalize l[i]=x at a get;unfold aR at a;have g:=d x;have e:=e (i+1) o_;cases c:bU id x with
  | true=>
   exact zqya15
  | false=>
   exact zqya10
def C4 (n:Nat) (id:Int) (a:∀ x:Rn,aA Tryz.prog n [x.av,.ptr [ii id]] [] (.ret (.bool (bU id x))) []) (l:List Rn) (hl:l.length<=1048576):ar 172 [.slice 14 (rav l) .no,idF n id] [] (.ret (ii (aR (bU id) l 0))) []:=by refine c_ Tryz.f172 λ_=>?_;refine gV ?_;exact To.cut [0,1,7,8] 0 rfl rfl rfl rfl (QH n id a l hl _ l.length 0 o_ rfl)
def VC (id:Int) (x:Rn):ar 179 [x.av,.ptr [ii id]] [] (.ret (.bool (bU id x))) []:=by unfold bU;exact c_ Tryz.f179 λ_=>zW
def FL (id:Int) (x:Rn):ar 254 [x.av,.ptr [ii id]] [] (.ret (.bool (bU id x))) []:=by unfold bU;exact c_ Tryz.f254 λ_=>zW
def nY (p:Rn->Bool):∀ (l:List Rn) (i:Nat),aR p l i= -1\/((i:Int)<=aR p l i/\aR p l i<(i:Int)+l.length)
 | [],i=>.inl rfl
 | x::l,i=>by
  unfold aR;by_cases h:p x=true
  .rw [if_pos h];right;simp;omega
  .rw [if_neg h];rcases nY p l (i+1) with a | a
   .exact .inl a
   .right;simp;omega
noncomputable abbrev fEv:Func:=Tryz.f114
abbrev evF (ids:List Int) (i:Nat):List (Nat×aa):=[(0,.ref 0 0),(1,.slice 1 (iv ids) .no),(8,.slice 1 (iv ids) .no),(9,.int .i64 ((iv ids).length:Nat)),(10,ii i)]
abbrev evD (Q:Rd) (run:List Rn) (ids:List Int):Rd:=⟨{Q.s with run:=aE run ids},Q.ev,Q.head,Q.start⟩
abbrev evG (Q:Rd) (run:List Rn) (ids:List Int) (g:Nat):Goal:=.full 2 (.ret (.tup [])) [rdO (evD Q run ids) (ruV (aE run ids) 2 0) g,evT g,ruT 0]
abbrev evB (q:Rd) (run:List Rn) (g:Nat):List ab:=[rdO q (.slice 14 (rav run) .no) g,evT g]
def BW (l:List Pn) (p:Pn):(jO l p).length=l.length+1:=by unfold jO;rw [Ai,Ai,Mv];have:=congrArg Lm (Bq (Q2.putAt p.q (l.map Pn.q)) l);rw [Ai] at this;omega
set_option maxHeartbeats 1000000 in
def aGQ (run:List Rn) (hs:Sm run) (ids:List Int) (w:ids.length<=1048576) (k:∀ id∈ids,0<=aR (bU id) run 0) (Q:Rd):∀ (m i:Nat) (q:Rd),i+m=ids.length->(ids.drop i).foldl (dO run) q=Q->q.s.pend.length+m<=1000000->q.ev.length+m<=1000000->
  To E fEv (evG Q run ids 1) (.head (stk fEv 0) (evF ids i) (evB q run 1)):=by
 intro m;induction m with
 | zero=>
  intro i q v b hp p;rw [Ah o_] at b;have b:q=Q:=b;subst b;have C:=ZL run hs ids w;have n:(iv ids).length=ids.length:=by simp
  have y:evG q run ids 1= .full 2 (.ret (.tup [])) [rdO q (ruV (aE run ids) 2 0) 1,evT 1,ruT 0]:=rfl;rw [y];generalize aE run ids=rn at *
  refine gV ?_;exact zW
 | succ m r=>
  intro i q v b hp p;have d:i<ids.length:=o_;rw [Ae d,Ba] at b;have o:=k _ (Bh d);have get:(iv ids)[i]? =some (ii ids[i]):=by simp [d]
  generalize ids[i]=id at b o get;have h1:=C4 _ id (VC id) run hs.1
  obtain ⟨at',c⟩:∃ a:Nat,aR (bU id) run 0=(a:Int):=⟨(aR (bU id) run 0).toNat,by omega⟩
  have f:at'<run.length:=by
   rcases nY (bU id) run 0 with h | h
   .omega
   .rw [c] at h;omega
  have B:=iG f;have j:dO run q id=kZ ⟨{q.s with pend:=jO q.s.pend (aS run at').pn},q.ev,q.head,q.start⟩ ⟨2,id,0⟩:=by
   have e:(aR (λ x=>x.g.id==id) run 0).toNat=at':=by have u:aR (bU id) run 0=at':=c;have A:aR (λ x=>x.g.id==id) run 0=aR (bU id) run 0:=rfl;rw [A,u];rfl
   unfold dO;rw [e];rfl
  rw [j] at b;rw [c] at h1;have t:=IG q.s.pend (aS run at').pn o_;have h3:=MF ⟨{q.s with pend:=jO q.s.pend (aS run at').pn},q.ev,q.head,q.start⟩ run 2 id 0 (by show q.ev.length<=_;omega);have ao:=r (i+1) (kZ ⟨{q.s with pend:=jO q.s.pend (aS run at').pn},q.ev,q.head,q.start⟩ ⟨2,id,0⟩) o_ b (by show (jO _ _).length+m<=_;rw [BW];omega) (by show (q.ev++[_]).length+m<=_;simp;omega)
  generalize kZ ⟨{q.s with pend:=jO q.s.pend (aS run at').pn},q.ev,q.head,q.start⟩ ⟨2,id,0⟩=q2 at *
  generalize jO q.s.pend (aS run at').pn=pq at *
  have l:(aS run at').pn=⟨(aS run at').g,(aS run at').seq,(aS run at').at'⟩:=rfl;rw [l] at t;generalize aS run at'=x at *
  have n:(iv ids).length=ids.length:=by simp
  have z:(rav run).length=run.length:=by simp
  clear j b k;refine gV ?_;exact zW
set_option maxHeartbeats 1000000 in
def aCO (r:Rd) (run:List Rn) (c:r.s.run=run) (hs:Sm run) (ids:List Int) (I:ids.length<=1048576) (y:ids≠[]) (n:∀ id∈ids,0<=aR (bU id) run 0) (hp:r.s.pend.length+ids.length<=1000000) (B:r.ev.length+ids.length<=1000000):
  ar 114 [.ref 0 0,.slice 1 (iv ids) .no] (evB r run 0) (.ret (.tup [])) [rdO (mJ r ids) (ruV (mJ r ids).s.run 2 0) 1,evT 1,ruT 0]:=by
 have z:mJ r ids=evD (ids.foldl (dO run) r) run ids:=by rw [<-c];rfl
 rw [z]
 obtain ⟨Q,j⟩:∃ Q,(ids.drop 0).foldl (dO run) r=Q:=⟨_,rfl⟩
 have p:ids.foldl (dO run) r=Q:=j;rw [p];have ev:=aGQ run hs ids I n Q;have t:0<ids.length:=Dy.2 y
 obtain ⟨m,hm⟩:∃ m,ids.length=m+1:=⟨ids.length-1,by omega⟩
 have D:(0:Nat)=0:=rfl;have key:To E fEv (evG Q run ids 1) (.head (stk fEv 0) (evF ids 0) (evB r run 0)):=by
  have hp:r.s.pend.length+(m+1)<=1000000:=o_;have B:r.ev.length+(m+1)<=1000000:=o_;have J:0+(m+1)=ids.length:=o_;clear p z c
  obtain ⟨i,d⟩:∃ i:Nat,i=0:=⟨_,rfl⟩
  have b:∀ q,q=r->To E fEv (evG Q run ids 1) (.head (stk fEv 0) (evF ids i) (evB q run 0)):=by
   intro q K;subst K;rw [<-d] at j J;have C:=λ q=>ev m (i+1) q o_;clear D ev d t;have l:i<ids.length:=o_;rw [Ae l,Ba] at j;have w:=n _ (Bh l);have get:(iv ids)[i]? =some (ii ids[i]):=by simp [l]
   generalize ids[i]=id at j w get;have h1:=C4 _ id (VC id) run hs.1
   obtain ⟨at',k⟩:∃ a:Nat,aR (bU id) run 0=(a:Int):=⟨(aR (bU id) run 0).toNat,by omega⟩
   have o:at'<run.length:=by
    rcases nY (bU id) run 0 with h | h
    .omega
    .rw [k] at h;omega
   have N:=iG o;have u:dO run q id=kZ ⟨{q.s with pend:=jO q.s.pend (aS run at').pn},q.ev,q.head,q.start⟩ ⟨2,id,0⟩:=by
    have e:(aR (λ x=>x.g.id==id) run 0).toNat=at':=by have H:aR (bU id) run 0=at':=k;have M:aR (λ x=>x.g.id==id) run 0=aR (bU id) run 0:=rfl;rw [M,H];rfl
    unfold dO;rw [e];rfl
   rw [u] at j;rw [k] at h1;have G:=IG q.s.pend (aS run at').pn o_;have h3:=MF ⟨{q.s with pend:=jO q.s.pend (aS run at').pn},q.ev,q.head,q.start⟩ run 2 id 0 (by show q.ev.length<=_;omega);have ao:=C (kZ ⟨{q.s with pend:=jO q.s.pend (aS run at').pn},q.ev,q.head,q.start⟩ ⟨2,id,0⟩)  j (by show (jO _ _).length+m<=_;rw [BW];omega) (by show (q.ev++[_]).length+m<=_;simp;omega)
   generalize kZ ⟨{q.s with pend:=jO q.s.pend (aS run at').pn},q.ev,q.head,q.start⟩ ⟨2,id,0⟩=q2 at *
   generalize jO q.s.pend (aS run at').pn=pq at *
   have v:(aS run at').pn=⟨(aS run at').g,(aS run at').seq,(aS run at').at'⟩:=rfl;rw [v] at G;generalize aS run at'=x at *
   have F:(iv ids).length=ids.length:=by simp
   have L:(rav run).length=run.length:=by simp
   clear u j n;refine gV ?_;exact zW
  rw [d] at b;exact b r rfl
 refine cT (E:=E) (fn:=Tryz.f114) (g:=.full 2 _ _) λ_=>?_;exact zW
abbrev ZD (r:Rd) (p:Pn) (b:Bool) (O:List ab):Prop:=ar 112 [.ref 0 0,p.av] (rdS r 0 0) (.ret (.bool b)) O
abbrev vO (r:Rd) (p:Pn) (O:List ab):Prop:=ar 52 [.ref 0 0,p.av] (rdS r 0 0) (.ret (.tup [])) O
abbrev aKD (r:Rd) (p:Pn) (Q:Option (List Int)):Prop:=ar 113 [r.s.c.av,.slice 14 (rav r.s.run) .no,p.g.av] [] (.ret (chR Q)) []
abbrev aLa (r:Rd) (p:Pn) (Q:Option Int):Prop:=ar 115 [r.s.c.av,ii r.s.now,.slice 14 (rav r.s.run) .no,p.g.av] [] (.ret (stA Q)) []
def vP (r R:Rd) (p:Pn) (h1:ZD r p true (rdS R 1 1)):vO r p (rdS R 1 1):=by exact zqya4
def aLA (s:Sta) (ev:List Ev) (st:Int) (p:Pn) (h1:ZD ⟨s,ev,true,st⟩ p false (rdS ⟨s,ev,true,st⟩ 0 0)):vO ⟨s,ev,true,st⟩ p (rdS ⟨s,ev,true,st⟩ 0 0):=by exact zqya4
set_option maxHeartbeats 1000000 in
def aLz (s:Sta) (ev:List Ev) (p:Pn) (h1:ZD ⟨s,ev,false,0⟩ p false (rdS ⟨s,ev,false,0⟩ 0 0)) (a:aKD ⟨s,ev,false,0⟩ p none) (h3:aLa ⟨s,ev,false,0⟩ p none):vO ⟨s,ev,false,0⟩ p (rdS ⟨s,ev,false,0⟩ 0 0):=by exact zqya4
set_option maxHeartbeats 1000000 in
def aLy (s:Sta) (ev:List Ev) (st:Int) (p:Pn) (n:Int) (c:ev.length<=1000000) (h1:ZD ⟨s,ev,false,st⟩ p false (rdS ⟨s,ev,false,st⟩ 0 0)) (b:aKD ⟨s,ev,false,st⟩ p none) (h3:aLa ⟨s,ev,false,st⟩ p (some n)):vO ⟨s,ev,false,st⟩ p (rdS ⟨s,ev++[⟨4,p.g.id,n⟩],true,n⟩ 1 0):=by
 have a:=IQ ⟨s,ev,true,n⟩ 4 p.g.id n (by show ev.length<=_;omega);unfold kZ at a;dsimp only at a;generalize ev++[⟨4,p.g.id,n⟩]=ev2 at *
 refine cT (E:=(Er [] [39,40,59,60,61,62,63,64])) (fn:=Tryz.f52) (g:=.full 3 _ _) λ_=>?_
 repeat' first | (refine gN (hEr [] [39,40,59,60,61,62,63,64]) ?_;conv=>whnf) | refine .eff [] [0,1,2] _ _ rfl h1 ?_ | refine .pure _ [] b ?_ | refine .pure _ [] h3 ?_ | refine .sole rfl (.eff [] [0,1,2] _ _ rfl a ?_) | exact rfl | (refine zt ?_;try intro h) | refine zu (λ h=>?_) λ h=>?_ | fail
 refine ⟨[],[0,1,2],⟨rfl,rfl⟩,rfl,rfl⟩
abbrev aMQ (r:Rd) (ids:List Int) (R:Rd):Prop:=ar 114 [.ref 0 0,.slice 1 (iv ids) .no] (evB r r.s.run 0) (.ret (.tup [])) [rdO R (ruV R.s.run 2 0) 1,evT 1,ruT 0]
set_option maxHeartbeats 2000000 in
def CM (s:Sta) (ev:List Ev) (st:Int) (p:Pn) (ids:List Int) (R:Rd) (h1:ZD ⟨s,ev,false,st⟩ p false (rdS ⟨s,ev,false,st⟩ 0 0)) (e:aKD ⟨s,ev,false,st⟩ p (some ids)) (h3:aMQ ⟨s,ev,false,st⟩ ids R)
  (a:Rd) (b:Bool) (d c:Nat) (i:ZD R p b (rdS a d c)) (j:d=0/\c=0\/d=1/\c=1):vO ⟨s,ev,false,st⟩ p [rdO a (ruV a.s.run 3 0) 1,evT 1,ruT 0,ruT 0]:=by
 rcases j with ⟨rfl,rfl⟩ | ⟨rfl,rfl⟩
 all_goals
  refine cT (E:=(Er [] [39,40,59,60,61,62,63,64])) (fn:=Tryz.f52) (g:=.full 3 _ _) λ_=>?_
  repeat' first | (refine gN (hEr [] [39,40,59,60,61,62,63,64]) ?_;conv=>whnf) | refine .eff [] [0,1,2] _ _ rfl h1 ?_ | refine .pure _ [] e ?_ | refine .eff [] [0,1] _ _ rfl h3 ?_ | refine .eff [] [0,1,4] _ _ rfl i ?_ | exact rfl | (refine zt ?_;try intro h) | refine zu (λ h=>?_) λ h=>?_ | fail
  refine ⟨[],[0,1,2,4],⟨rfl,rfl⟩,rfl,rfl⟩
def A5 (r:Rd) (p:Pn):Prop:=
 (cQ r p=r/\vO r p (rdS r 0 0))\/vO r p (rdS (cQ r p) 1 1)\/vO r p (rdS (cQ r p) 1 0)\/vO r p [rdO (cQ r p) (ruV (cQ r p).s.run 3 0) 1,evT 1,ruT 0,ruT 0]
noncomputable abbrev aLV:Func:=Tryz.f14
abbrev KC:ab:=.cells 31 [.slice 11 [] .nil,.slice 6 [] .nil,ii 0,ii 0,ii 0,ii 0,.slice 11 [] .nil,.slice 14 [] .nil,.slice 1 [] .nil]
abbrev aMF (L:List Pn) (i:Nat):List (Nat×aa):=[(2,.ref 3 0),(4,.ref 0 0),(12,.slice 11 (pnv L) .no),(13,.int .i64 ((pnv L).length:Nat)),(14,ii i)]
abbrev aME (r:Rd):List ab:=[rdO r (ruV r.s.run 2 0) 0,evT 0,ruT 0,KC]
set_option maxHeartbeats 1000000 in
def aAB (b:Rd->List Pn->Prop) (j:∀ r p rest,b r (p::rest)->A5 r p/\b (cQ r p) rest) (L:List Pn) (n:L.length<=1000000) (R:Rd):∀ (m i:Nat) (r:Rd),i+m=L.length->(L.drop i).foldl cQ r=R->b r (L.drop i)->
  To E aLV (.pure (.ret (.tup [R.s.av,.slice 3 (evv R.ev) .no]))) (.head (stk aLV 0) (aMF L i) (aME r)):=by
 have g:(pnv L).length=L.length:=by simp
 intro m;induction m with
 | zero=>
  intro i r k a _;rw [Ah o_] at a;have a:r=R:=a;subst a;refine gV ?_;refine aF λ h=>?_;refine cO hE 2 ?_;conv=>whnf
  refine To.permAt hE [0,1,2,3,4,5,6,7,9] [8] (by rfl) ?_;conv=>whnf
  refine aL ?_;refine aL ?_;exact zW
 | succ m l=>
  intro i r k a d;have c:i<L.length:=o_;rw [Ae c] at a d;rw [Ba] at a;obtain ⟨h1,f⟩:=j _ _ _ d;have get:=IJ c;generalize L[i]=p at a d h1 f get;have ao:=l (i+1) (cQ r p) o_ a f
  rcases h1 with ⟨e,hl⟩ | hl | hl | hl
  .rw [e] at ao
   refine gV ?_;exact zW
  .generalize cQ r p=r2 at *
   refine gV ?_;exact zW
  .generalize cQ r p=r2 at *
   refine gV ?_;exact zW
  .generalize cQ r p=r2 at *
   refine gV ?_;refine aT λ h=>?_
   repeat' first | (refine gN hE ?_;conv=>whnf) | refine ⟨i,rfl,?_⟩ | refine ⟨_,get,?_⟩ | refine .eff [] [0,1,2] _ _ rfl hl ?_ | exact rfl | (refine zt ?_;try intro h) | refine zu (λ h=>?_) λ h=>?_ | fail
   refine To.part [2,4,12,13,14] [0,1,5,3] rfl rfl rfl ?_;exact ao
def aHq (a:Rd->List Pn->Prop) (c:∀ r p rest,a r (p::rest)->A5 r p/\a (cQ r p) rest) (s:Sta) (h:StaSm' s) (L:List Pn) (b:L.length<=1000000) (hs:ar 51 [s.av] [] (.ret (.slice 11 (pnv L) .no)) []) (e:a ⟨s,[],false,0⟩ L):
  ar 14 [s.av] [] (.ret (.tup [(L.foldl cQ ⟨s,[],false,0⟩).s.av,.slice 3 (evv (L.foldl cQ ⟨s,[],false,0⟩).ev) .no])) []:=by
 have h1:=aAB a c L b _ L.length 0 ⟨s,[],false,0⟩ o_ rfl e;have d:=aHt s h;rw [Ci] at h1;generalize L.foldl cQ ⟨s,[],false,0⟩=R at *
 refine c_ Tryz.f14 λ_=>?_
 repeat' first | (refine gN hE ?_;conv=>whnf) | refine .pure _ _ d ?_ | refine .pure _ [] hs ?_ | exact rfl | (refine zt ?_;try intro h) | refine zu (λ h=>?_) λ h=>?_ | fail
 refine To.begin 3 9 41 rfl rfl ?_;refine To.part [2,4,12,13,14] [3,4,2,1] rfl rfl rfl ?_;exact h1
def AY (run:List Rn):∀ (ids:List Int) (r:Rd),(ids.foldl (dO run) r).s.c=r.s.c/\(ids.foldl (dO run) r).s.now=r.s.now/\(ids.foldl (dO run) r).s.nxt=r.s.nxt/\(ids.foldl (dO run) r).s.hist=r.s.hist/\(ids.foldl (dO run) r).s.run=r.s.run/\(ids.foldl (dO run) r).head=r.head/\(ids.foldl (dO run) r).start=r.start/\(ids.foldl (dO run) r).s.pend.length=r.s.pend.length+ids.length/\(ids.foldl (dO run) r).ev.length=r.ev.length+ids.length
 | [],r=>⟨rfl,rfl,rfl,rfl,rfl,rfl,rfl,rfl,rfl⟩
 | id::ids,r=>by
  obtain ⟨a,b,c,d,e,f,g,h,i⟩:=AY run ids (dO run r id);have h1:(dO run r id).s.pend.length=r.s.pend.length+1:=BW _ _;have j:(dO run r id).ev.length=r.ev.length+1:=by show (r.ev++[_]).length=_;simp
  rw [Ba];refine ⟨a,b,c,d,e,f,g,?_,?_⟩
  .rw [h,h1,Al];omega
  .rw [i,j,Al];omega
structure LookPre (r:Rd) (p:Pn):Prop where
 c:r.s.c.sm
 run:Sm r.s.run
 pend:r.s.pend.length<=900000
 ev:r.ev.length<=900000
 pods:0<=p.g.pods/\p.g.pods<=16
 start:r.head=false->r.start=0
 cho:cK r.s.c r.s.run p.g=none->∀ ids,gE r.s.c r.s.run p.g=some ids->ids≠[]/\ids.length<=100000/\∀ id∈ids,0<=aR (bU id) r.s.run 0
def aBR (r:Rd) (p:Pn) (h:LookPre r p):A5 r p:=by
 have v:=h.pend;have f:=h.ev;rcases OX r p h.c h.run o_ o_ h.pods with ⟨e,i⟩ | ⟨e,i⟩
 .have o:(admR r p).2=false:=by rw [e]
  obtain ⟨s,ev,head,start⟩:=r;cases head with
  | true=>
   have a:cQ ⟨s,ev,true,start⟩ p=⟨s,ev,true,start⟩:=by unfold cQ;rw [if_neg (by rw [o];decide),if_pos rfl]
   exact .inl ⟨a,aLA s ev start p i⟩
  | false=>
   have a:cQ ⟨s,ev,false,start⟩ p=aIa ⟨s,ev,false,start⟩ p (gE s.c s.run p.g):=by unfold cQ;rw [if_neg (by rw [o];decide),if_neg (show ¬ false=true by decide)]
   have b:=Y2 s.c h.c s.run h.run p.g h.pods;have d:=h.cho;dsimp only at d;cases q:gE s.c s.run p.g with
   | none=>
    rw [q] at b a;have hst:=aAg s.c h.c s.now s.run h.run p.g h.pods;have a:cQ ⟨s,ev,false,start⟩ p=oQ ⟨s,ev,false,start⟩ p (sY s.c s.now s.run p.g):=a;cases hs:sY s.c s.now s.run p.g with
    | none=>
     rw [hs] at hst a;have H:start=0:=h.start rfl;subst H;exact .inl ⟨a,aLz s ev p i b hst⟩
    | some n=>
     rw [hs] at hst a;have a:cQ ⟨s,ev,false,start⟩ p=⟨s,ev++[⟨4,p.g.id,n⟩],true,n⟩:=a;refine .inr (.inr (.inl ?_));rw [a];exact aLy s ev start p n (by dsimp only at f;omega) i b hst
   | some ids=>
    rw [q] at b a;have m:cK s.c s.run p.g=none:=by
     have w:(EZ ⟨s,ev,false,start⟩ p (cK s.c s.run p.g)).2=false:=o;cases B:cK s.c s.run p.g with
     | none=>rfl
     | some x=>rw [B] at w;have z:true=false:=w;cases z
    obtain ⟨A,K,D⟩:=d m ids q;have a:cQ ⟨s,ev,false,start⟩ p=(admR (mJ ⟨s,ev,false,start⟩ ids) p).1:=a;have u:=aCO ⟨s,ev,false,start⟩ s.run rfl h.run ids o_ A D (by dsimp only at v⊢;omega) (by dsimp only at f⊢;omega);obtain ⟨C,_,_,_,J,_,_,F,y⟩:=AY s.run ids ⟨s,ev,false,start⟩;have k:(mJ ⟨s,ev,false,start⟩ ids).s.c=s.c:=C;have l:(mJ ⟨s,ev,false,start⟩ ids).s.run=aE s.run ids:=rfl;have G:(mJ ⟨s,ev,false,start⟩ ids).s.pend.length=s.pend.length+ids.length:=F;have I:(mJ ⟨s,ev,false,start⟩ ids).ev.length=ev.length+ids.length:=y;refine .inr (.inr (.inr ?_));rw [a];generalize mJ ⟨s,ev,false,start⟩ ids=R at *
    dsimp only at v f;rcases OX R p (by rw [k];exact h.c) (by rw [l];exact oJ h.run ids) o_ o_ h.pods with ⟨t,j⟩ | ⟨t,j⟩
    .rw [t];exact CM s ev start p ids R i b u R false 0 0 j (.inl ⟨rfl,rfl⟩)
    .exact CM s ev start p ids R i b u (admR R p).1 true 1 1 j (.inr ⟨rfl,rfl⟩)
 .have a:cQ r p=(admR r p).1:=by unfold cQ;rw [if_pos e]
  refine .inr (.inl ?_);rw [a];exact vP r (admR r p).1 p i
def xC (l:List Pn) (p:Pn):(jO l p).Perm (p::l):=by
 unfold jO;have h:=Bq (Q2.putAt p.q (l.map Pn.q)) l;generalize Ia (Q2.putAt p.q (l.map Pn.q)) l=A at *
 generalize Hi (Q2.putAt p.q (l.map Pn.q)) l=B at *
 rw [<-h,Af];exact Ej
def C2 (a:Int):∀ (l:List Pn) (i:Nat),((∀ p∈l,p.g.id≠a)/\Q2.idx (λ x=>x.id==a) (l.map Pn.q) i= -1)\/∃ A p B,l=A++p::B/\p.g.id=a/\Q2.idx (λ x=>x.id==a) (l.map Pn.q) i=((i+A.length:Nat):Int)
 | [],i=>.inl ⟨λ p hp=>(by cases hp),rfl⟩
 | p::l,i=>by
  rw [Bl];unfold Q2.idx;by_cases h:p.g.id=a
  .right;refine ⟨[],p,l,rfl,h,?_⟩;have e:(p.q.id==a)=true:=by show (p.g.id==a)=true;rw [h];simp
   simp [e]
  .have e:(p.q.id==a)=false:=by show (p.g.id==a)=false;simpa using h
   simp only [e];rcases C2 a l (i+1) with ⟨h1,c⟩ | ⟨A,x,B,h1,c,h3⟩
   .left;refine ⟨λ q b=>?_,c⟩;rcases Bb.1 b with rfl | b
    .exact h
    .exact h1 q b
   .right;refine ⟨p::A,x,B,by rw [h1];rfl,c,?_⟩;refine h3.trans ?_;rw [Al];congr 1;omega
def AX (a:Int) (l:List Pn):((∀ p∈l,p.g.id≠a)/\iQ a l= -1)\/∃ A p B,l=A++p::B/\p.g.id=a/\iQ a l=(A.length:Int):=by have h:=C2 a l 0;simp only [Bo] at h;exact h
def BI {l:List Pn} {p:Pn} (hp:p∈l) (d:(l.map λ x=>x.g.id).Nodup):(p::dI l p.g.id).Perm l/\∀ q∈l,q≠p->q∈dI l p.g.id:=by
 rcases AX p.g.id l with ⟨h,_⟩ | ⟨A,x,B,h1,f,h3⟩
 .exact absurd rfl (h p hp)
 .have j:x=p:=by
   subst h1;rw [Bm,Bl,Bz] at d;obtain ⟨_,i,c⟩:=d;rw [Ce] at i;rcases Az.1 hp with hp | hp
   .exact absurd f.symm (c _ (Cm hp) _ (Ap ..))
   .rcases Bb.1 hp with hp | hp
    .exact hp.symm
    .exact absurd (f▸Cm hp) i.1
  subst j;have e:dI l x.g.id=A++B:=by unfold dI;rw [if_neg o_,h3,h1];show (A++x::B).eraseIdx A.length=_;rw [Jg (Bc _),Mm];rfl
  rw [e];refine ⟨by rw [h1];exact Ej.symm,λ q a b=>?_⟩;rw [h1] at a;rcases Az.1 a with a | a
  .exact Dd _ a
  .rcases Bb.1 a with a | a
   .exact absurd a b
   .exact Cu _ a
def DE {id:Int} (l:List Rn):∀ (i:Nat) (x:Rn),x∈l->x.g.id=id->0<=aR (bU id) l i:=by
 induction l with
 | nil=>intro i x a;cases a
 | cons y l c=>
  intro i x a h;unfold aR;by_cases b:bU id y=true
  .rw [if_pos b];omega
  .rw [if_neg b];rcases Bb.1 a with e | a
   .exact absurd (by unfold bU;rw [<-e];simpa using h) b
   .exact c (i+1) x a h
def X8 {id:Int} (l:List Rn):∀ (i:Nat),0<=aR (bU id) l i->aS l (aR (bU id) l i-i).toNat∈l/\(aS l (aR (bU id) l i-i).toNat).g.id=id:=by
 induction l with
 | nil=>intro i h;have h:(0:Int)<= -1:=h;omega
 | cons y l b=>
  intro i h;unfold aR at h⊢;by_cases a:bU id y=true
  .rw [if_pos a];have e:((i:Int)-i).toNat=0:=o_;rw [e];unfold bU at a;exact ⟨Ap ..,(by simpa using a:y.g.id=id)⟩
  .rw [if_neg a] at h⊢;obtain ⟨h1,c⟩:=b (i+1) h;rcases nY (bU id) l (i+1) with h3 | h3
   .omega
   .have e:(aR (bU id) l (i+1)-i).toNat=(aR (bU id) l (i+1)-((i+1:Nat):Int)).toNat+1:=o_;rw [e];exact ⟨Bd _ h1,c⟩
def xOf (run:List Rn) (id:Int):Rn:=aS run (aR (bU id) run 0).toNat
def kP {run:List Rn} {id:Int} (h:0<=aR (bU id) run 0):xOf run id∈run/\(xOf run id).g.id=id:=by have a:=X8 run 0 h;have e:(aR (bU id) run 0-((0:Nat):Int)).toNat=(aR (bU id) run 0).toNat:=o_;rw [e] at a;exact a
def GL (run:List Rn):∀ (ids:List Int) (r:Rd),(ids.foldl (dO run) r).s.pend.Perm (ids.map (λ id=>(xOf run id).pn)++r.s.pend)
 | [],r=>Jl _
 | id::ids,r=>by rw [Ba,Bl];refine (GL run ids (dO run r id)).trans ?_;have h:(dO run r id).s.pend=jO r.s.pend (xOf run id).pn:=rfl;rw [h];refine (Dv _ (xC _ _)).trans ?_;exact Ej
def aBr {l:List Rn} (h:HK l):(l.map λ x=>x.g.id).Nodup:=by unfold Li;rw [Fx];exact Jk (λ h=>h.1) h
def L7 {run:List Rn} (k:HK run) {ids:List Int} (l:ids.Nodup) (c:∀ id∈ids,0<=aR (bU id) run 0):(ids.map (xOf run)++aE run ids).Perm run:=by
 have d:run.Nodup:=Jk (λ h e=>h.1 (by rw [e])) k;have h1:(ids.map (xOf run)).Nodup:=by unfold Li;rw [Fx];refine List.Pairwise.imp_of_mem (λ{a b} j i hab e=>hab ?_) l;rw [<-(kP (c a j)).2,<-(kP (c b i)).2,e]
 have m:(aE run ids).Nodup:=d.sublist Lb;refine (List.perm_ext_iff_of_nodup ?_ d).2 λ x=>?_
 .refine Bz.2 ⟨h1,m,λ a j b i e=>?_⟩;obtain ⟨id,hid,rfl⟩:=Ca.1 j;subst e;exact (jL.1 i).2 (by rw [(kP (c id hid)).2];exact hid)
 .constructor
  .intro h;rcases Az.1 h with h | h
   .obtain ⟨id,hid,rfl⟩:=Ca.1 h;exact (kP (c id hid)).1
   .exact (jL.1 h).1
  .intro h;by_cases f:x.g.id∈ids
   .refine Dd _ (Ca.2 ⟨x.g.id,f,?_⟩);exact aFy k (kP (c _ f)).1 h (kP (c _ f)).2
   .exact Cu _ (jL.2 ⟨h,f⟩)
structure Base (s:Sta):Prop where
 c:s.c.sm
 ids:((s.pend++s.run.map Rn.pn).map λ x=>x.g.id).Nodup
 seqs:((s.pend++s.run.map Rn.pn).map λ x=>x.seq).Nodup
 few:(s.pend++s.run.map Rn.pn).length<=39
 gang:∀ x∈s.pend++s.run.map Rn.pn,(0<=x.g.pods/\x.g.pods<=16)/\bI x.g.need=true/\x.g.id≠0
structure ai (s:Sta) (r:Rd) (rest:List Pn):Prop where
 c:r.s.c=s.c
 now:r.s.now=s.now
 nxt:r.s.nxt=s.nxt
 hist:r.s.hist=s.hist
 perm:(r.s.pend++r.s.run.map Rn.pn).Perm (s.pend++s.run.map Rn.pn)
 sub:∀ p∈rest,p∈r.s.pend
 rn:rest.Nodup
 start:r.head=false->r.start=0
 hs:∀ x∈r.s.run,x.hs.length<=1048576
def ai.few {s:Sta} {r:Rd} {rest:List Pn} (b:Base s) (h:ai s r rest):r.s.pend.length+r.s.run.length<=39:=by have:=h.perm.length_eq;have a:=b.few;simp at this a;omega
def ai.sm {s:Sta} {r:Rd} {rest:List Pn} (b:Base s) (h:ai s r rest):Sm r.s.run:=⟨by have:=h.few b;omega,h.hs⟩
def ai.once {s:Sta} {r:Rd} {rest:List Pn} (b:Base s) (h:ai s r rest):HK r.s.run:=by have h1:=((h.perm.map λ x=>x.g.id).nodup_iff).2 b.ids;have a:=((h.perm.map λ x=>x.seq).nodup_iff).2 b.seqs;rw [Bm,Bz,Dx] at h1 a;have h1:=h1.2.1;have a:=a.2.1;unfold Li at h1 a;rw [Fx] at h1 a;exact h1.and a
def ai.pids {s:Sta} {r:Rd} {rest:List Pn} (b:Base s) (h:ai s r rest):(r.s.pend.map λ x=>x.g.id).Nodup:=by have h1:=((h.perm.map λ x=>x.g.id).nodup_iff).2 b.ids;rw [Bm,Bz] at h1;exact h1.1
def ai.gangP {s:Sta} {r:Rd} {rest:List Pn} (b:Base s) (h:ai s r rest) {p:Pn} (hp:p∈r.s.pend):(0<=p.g.pods/\p.g.pods<=16)/\bI p.g.need=true/\p.g.id≠0:=
 b.gang p (h.perm.mem_iff.1 (Dd _ hp))
def ai.skip {s:Sta} {r:Rd} {p:Pn} {rest:List Pn} (h:ai s r (p::rest)):ai s r rest:=
 {h with sub:=λ q a=>h.sub q (Bd _ a),rn:=(Ce.1 h.rn).2}
def ai.adm {s:Sta} {r:Rd} {p:Pn} {rest:List Pn} (b:Base s) (h:ai s r (p::rest)) {fl:Int} {hs:List Int} (hl:hs.length<=1048576):ai s (OY r p fl hs) rest where
 c:=h.c
 now:=h.now
 nxt:=h.nxt
 hist:=h.hist
 perm:=by have hp:=(BI (h.sub p (Ap ..)) (h.pids b)).1;show (dI r.s.pend p.g.id++(r.s.run++[_]).map Rn.pn).Perm _;refine Mr ?_ h.perm;rw [Bm,<-Af];refine (Dw (l₂:=[p])).trans ?_;rw [<-Af];exact Dt _ hp
 sub q hq:=(BI (h.sub p (Ap ..)) (h.pids b)).2 q (h.sub q (Bd _ hq)) λ e=>(Ce.1 h.rn).1 (e▸hq)
 rn:=(Ce.1 h.rn).2
 start:=h.start
 hs x hx:=by
  rcases Az.1 hx with hx | hx
  .exact h.hs x hx
  .rw [Dj.1 hx];exact hl
def ai.evic {s:Sta} {r:Rd} {rest:List Pn} (b:Base s) (h:ai s r rest) {ids:List Int} (g:ids.Nodup) (d:∀ id∈ids,0<=aR (bU id) r.s.run 0):ai s (mJ r ids) rest:=by
 obtain ⟨l,j,m,i,_,n,k,_,_⟩:=AY r.s.run ids r;have hp:=GL r.s.run ids r;refine ⟨l.trans h.c,j.trans h.now,m.trans h.nxt,i.trans h.hist,?_,λ p a=>hp.mem_iff.2 (Cu _ (h.sub p a)),h.rn,λ e=>?_,λ x o=>h.hs x (Fm.1 o).1⟩
 .show ((ids.foldl (dO r.s.run) r).s.pend++(aE r.s.run ids).map Rn.pn).Perm _;refine Mr ?_ h.perm;refine (Dt _ hp).trans ?_;have f:=(L7 (h.once b) g d).map Rn.pn;rw [Bm,Dx] at f;refine (Dt _ Dw).trans ?_;rw [Af];exact Dv _ f
 .show (ids.foldl (dO r.s.run) r).start=0;rw [k];refine h.start ?_;rw [<-n];exact e
def yB {s:Sta} {r:Rd} {rest:List Pn} (b:Base s) (h:ai s r rest) {g:Gan} (i:cK r.s.c r.s.run g=none) {ids:List Int} (d:gE r.s.c r.s.run g=some ids):
  ids≠[]/\ids.Nodup/\ids.length<=39/\(∀ id∈ids,0<=aR (bU id) r.s.run 0)/\∃ x,cK r.s.c (aE r.s.run ids) g=some x:=by
 obtain ⟨_,h1,f,h3⟩:=zG d;have hl:=aHD (h.once b) d;have a:=h.few b;refine ⟨λ e=>?_,h1,by omega,λ id hid=>?_,Da.1 h3⟩
 .subst e;unfold qX at h3;rw [fQ,i] at h3;cases h3
 .obtain ⟨_,x,j,e,_⟩:=f id hid;exact DE _ 0 x j e
def aFZ {s:Sta} {r:Rd} {p:Pn} {rest:List Pn} (b:Base s) (h:ai s r (p::rest)) (he:r.ev.length<=900000):LookPre r p where
 c:=by rw [h.c];exact b.c
 run:=h.sm b
 pend:=by have:=h.few b;omega
 ev:=he
 pods:=(h.gangP b (h.sub p (Ap ..))).1
 start:=h.start
 cho hf ids hq:=by obtain ⟨a1,_,a3,a4,_⟩:=yB b h hf hq;exact ⟨a1,by omega,a4⟩
def XN {s:Sta} {r:Rd} {p:Pn} {rest:List Pn} (b:Base s) (h:ai s r (p::rest)):ai s (cQ r p) rest/\(cQ r p).ev.length<=r.ev.length+40:=by
 have w:=(h.gangP b (h.sub p (Ap ..))).1;have a:=h.skip;have k:∀ {q:Rd},ai s q (p::rest)->ai s (admR q p).1 rest/\(admR q p).1.ev.length<=q.ev.length+1:=λ{q} d=>by
  unfold admR;cases j:cK q.s.c q.s.run p.g with
  | none=>exact ⟨d.skip,Hv _⟩
  | some x=>
   have v:=aCE w j;obtain ⟨fl,hs⟩:=x;unfold EZ;dsimp only;split
   .exact ⟨d.skip,Hv _⟩
   .exact ⟨d.adm b v,by show (q.ev++[_]).length<=_;simp⟩
 unfold cQ;split
 .exact ⟨(k h).1,by have:=(k h).2;omega⟩
 .rename_i m;split
  .exact ⟨a,by omega⟩
  .rename_i t;have f:r.head=false:=by cases d:r.head with | false=>rfl | true=>exact absurd d t
   have i:cK r.s.c r.s.run p.g=none:=by
    cases j:cK r.s.c r.s.run p.g with
    | none=>rfl
    | some x=>
     obtain ⟨fl,hs⟩:=x;refine absurd ?_ m;unfold admR;rw [j];unfold EZ;dsimp only;rw [f];rfl
   cases d:gE r.s.c r.s.run p.g with
   | none=>
    show ai s (oQ r p _) rest/\(oQ r p _).ev.length<=_;cases sY r.s.c r.s.now r.s.run p.g with
    | none=>exact ⟨a,by show r.ev.length<=_;omega⟩
    | some n=>exact ⟨⟨a.c,a.now,a.nxt,a.hist,a.perm,a.sub,a.rn,λ e=>(by cases e),a.hs⟩,by show (r.ev++[_]).length<=_;simp⟩
   | some ids=>
    obtain ⟨_,u,z,o,_⟩:=yB b h i d;obtain ⟨l,A⟩:=k (h.evic b u o);refine ⟨l,?_⟩;have y:(mJ r ids).ev.length=r.ev.length+ids.length:=(AY r.s.run ids r).2.2.2.2.2.2.2.2;show (admR (mJ r ids) p).1.ev.length<=_;omega
def J7 (s:Sta) (r:Rd) (rest:List Pn):Prop:=ai s r rest/\r.ev.length+100*rest.length<=900000
def wY {s:Sta} (b:Base s) (r:Rd) (p:Pn) (rest:List Pn) (h:J7 s r (p::rest)):J7 s (cQ r p) rest:=by have a:=h.2;rw [Al] at a;obtain ⟨c,h3⟩:=XN b h.1;exact ⟨c,by omega⟩
def W4 {s:Sta} (b:Base s) (r:Rd) (p:Pn) (rest:List Pn) (h:J7 s r (p::rest)):A5 r p/\J7 s (cQ r p) rest:=by have a:=h.2;rw [Al] at a;exact ⟨aBR r p (aFZ b h.1 o_),wY b r p rest h⟩
structure RunOK (s:Sta):Prop where
 base:Base s
 sm:StaSm' s
 ord:OrdOK s
 at':lY s.pend
 tot:Tot (ltP s) s.pend
def RunOK.start {s:Sta} (h:RunOK s):J7 s ⟨s,[],false,0⟩ (B9 s):=by
 have hp:(B9 s).Perm s.pend:=fA _ _;have c:s.pend.Nodup:=by have:=h.base.ids;rw [Bm,Bz] at this;have:=this.1;unfold Li at this;rw [Fx] at this;exact Jk (λ h e=>h (by rw [e])) this
 have hl:=h.base.few;rw [Ai] at hl;have a:=hp.length_eq;refine ⟨⟨rfl,rfl,rfl,rfl,Jl _,λ p b=>hp.mem_iff.1 b,hp.symm.nodup c,λ_=>rfl,h.sm.run.2⟩,?_⟩;show 0+_<=_;omega
def oO (s:Sta):Rd:=(B9 s).foldl cQ ⟨s,[],false,0⟩
def BP {s:Sta} (b:Base s):∀ (L:List Pn) (r:Rd),J7 s r L->J7 s (L.foldl cQ r) []
 | [],_,h=>h
 | p::L,r,h=>BP b L (cQ r p) (wY b r p L h)
def RunOK.few {s:Sta} (h:RunOK s):s.pend.length<40:=by have:=h.base.few;rw [Ai] at this;omega
def aEX (s:Sta) (h:RunOK s):ar 14 [s.av] [] (.ret (.tup [(oO s).s.av,.slice 3 (evv (oO s).ev) .no])) []:=by have a:=h.few;have hl:(B9 s).length=s.pend.length:=(fA _ _).length_eq;exact aHq (J7 s) (W4 h.base) s h.sm (B9 s) o_ (aBm s h.ord a h.at' h.tot) h.start
def fM (s:Sta) (g:Gan):Sta×Int:=
 if eM s.c g≠0 then (s,eM s.c g) else
 if 0<=iQ g.id s.pend\/0<=aR (bU g.id) s.run 0 then (s,5) else
 if (cK s.c [] g).isNone=true then (s,6) else
 if 32<=s.pend.length+s.run.length then (s,8) else
 ({s with pend:=jO s.pend ⟨g,s.nxt,s.now⟩,nxt:=s.nxt+1},0)
def wH (l:List Rn) (t:Int):List Ev:=(l.filter λ x=>decide (gD x<=t)).map λ x=>⟨3,x.g.id,0⟩
def kD (s:Sta) (n:Int):Sta×List Ev×Int:=
 if n<1\/1048576<n then (s,[],1) else
 if 1099511627776-n<s.now then (s,[],8) else
 ({s with hist:=tkL s.hist (zS s.c s.run) n s.c.half,now:=s.now+n,run:=atL s.run (s.now+n)},wH s.run (s.now+n),0)
abbrev qF (s:Sta):ab:=.cells 31 s.cs
def aCv {c:Con} {g:Gan} (h:eM c g=0):(0<=g.pods/\g.pods<=16)/\bI g.need=true:=by
 unfold eM at h;split at h
 .rename_i a;unfold JX at a;simp only [Ad,decide_eq_true_eq] at a;exact ⟨⟨by omega,by omega⟩,a.2.1⟩
 .omega
def YG {x:Rn} {l:List Rn} {t:Int} (h:gD x<=t):wH (x::l) t=⟨3,x.g.id,0⟩::wH l t:=by unfold wH;rw [Ho,if_pos (decide_eq_true h)];rfl
def YH {x:Rn} {l:List Rn} {t:Int} (h:¬ gD x<=t):wH (x::l) t=wH l t:=by unfold wH;rw [Ho,if_neg (by simpa using h)]
def aV (s:Sta) (x:Cmd):Sta×List Ev×Int:=
 if C8.chk x≠0 then (s,[],C8.chk x) else
 if x.k=1 then (if bT x.c≠0 then (s,[],bT x.c) else if 0<s.pend.length+s.run.length then (s,[],7) else ({s with c:=x.c,hist:=Aj x.c.ns.length 0},[],0)) else
 if x.k=2 then ((fM s x.g).1,[],(fM s x.g).2) else
 if x.k=5 then kD s x.n else
 if x.k=6 then ((oO s).s,(oO s).ev,0) else
 if 0<=aR (bU x.n) s.run 0 then ({s with run:=aE s.run [x.n]},[],0) else
 if x.k=3\/iQ x.n s.pend<0 then (s,[],4) else
 ({s with pend:=dI s.pend x.n},[],0)
structure StOK (s:Sta):Prop where
 c:s.c.sm
 run:RunOK s
 half:s.c.half<=9223372036854775807
 nxt:0<=s.nxt/\s.nxt<=1099511627777
def aMj {x:Cmd} (h:C8.chk x=0):1<=x.k/\x.k<=6:=by
 unfold C8.chk at h;split at h
 .rename_i a;simpa using a
 .omega
def nI (s:Sta) (h:StaSm' s):ar 133 [s.av] [] (.ret s.av) []:=by have h1:=JP s.c.ns h.ns;have b:=JQ s.c.hs h.hs;have h3:=RT s.pend h.pend;have d:=RU s.hist h.hist;have a:=aA.nil2 (by have h:=oK s.run h.run [] s_;rw [fQ] at h;exact h);exact c_ Tryz.f133 λ_=>zW
def aAj (s:Sta) (id:Int) (hl:s.run.length<=1048576):ar 206 [s.av,ii id] [] (.ret (ii (aR (bU id) s.run 0))) []:=by
 have h:=C4 _ id (FL id) s.run hl;generalize aR (bU id) s.run 0=r at *
 exact c_ Tryz.f206 λ_=>zW
def S7:ar 45 [] [] (.ret (Sta.av ⟨⟨[],[],0,0⟩,0,1,[],[],[]⟩)) []:=by exact c_ Tryz.f45 λ_=>zW
def aE7:ar 32 [] [] (.ret (Sta.av ⟨⟨[],[],0,0⟩,0,1,[],[],[]⟩)) []:=by exact c_ Tryz.f32 λ_=>zW
abbrev aK8 (s S:Sta) (g:Gan) (e:Int):Prop:=ar 136 [.ref 0 0,g.av] [qF s] (.ret (ii e)) [qF S]
set_option maxHeartbeats 2000000 in
def aEG (s:Sta) (g:Gan) (l:s.c.sm) (hp:s.pend.length<=1000000) (hl:s.run.length<=1000000) (t:s.nxt<=1099511627777) (n:0<=s.nxt):aK8 s (fM s g).1 g (fM s g).2:=by
 have h1:=K4 s.c g;have u:=aA9 s.pend g.id;have h3:=aAj s g.id o_;have r:(pnv s.pend).length=s.pend.length:=by simp
 have o:(rav s.run).length=s.run.length:=by simp
 unfold fM;by_cases d:eM s.c g≠0
 .rw [if_pos d];have x:(eM s.c g !=0)=true:=by simpa using d
  generalize eM s.c g=e at *
  exact zqya1
 rw [if_neg d];have d:eM s.c g=0:=Fh.1 d;obtain ⟨m,v⟩:=aCv d;rw [d] at h1;have i:=MM s.c l g m;generalize iQ g.id s.pend=a at *
 generalize aR (bU g.id) s.run 0=b at *
 by_cases k:0<=a\/0<=b
 .rw [if_pos k];by_cases q:0<=a
  .exact zqya1
  .have p:0<=b:=o_;exact zqya1
 rw [if_neg k];have q:a<0:=o_;have p:b<0:=o_;cases j:(cK s.c [] g).isNone with
 | true=>
  rw [j] at i;rw [if_pos rfl];exact zqya1
 | false=>
  rw [j] at i;rw [if_neg d_];by_cases h:32<=s.pend.length+s.run.length
  .rw [if_pos h];exact zqya1
  .rw [if_neg h];have w:=IG s.pend ⟨g,s.nxt,s.now⟩ hp;generalize jO s.pend ⟨g,s.nxt,s.now⟩=pq at *
   exact zqya1
def aHJ (n a b:Int) (r:Bool) (d:(decide (a<=n)&&decide (n<=b))=r):ar 210 [ii n,ii a,ii b] [] (.ret (.bool r)) []:=by
 by_cases h1:a<=n
 .by_cases c:n<=b
  .have e:r=true:=by rw [<-d,decide_eq_true h1,decide_eq_true c];rfl
   subst e;refine c_ Tryz.f210 λ_=>?_
   repeat' first | (refine gN hE ?_;conv=>whnf) | exact rfl | (refine zt ?_;try intro h) | refine zu (λ h=>?_) λ h=>?_ | fail
   all_goals exact congrArg (λ b=>Res.ret (aa.bool b)) (decide_eq_true c)
  .have e:r=false:=by rw [<-d,decide_eq_true h1,decide_eq_false c];rfl
   subst e;refine c_ Tryz.f210 λ_=>?_
   repeat' first | (refine gN hE ?_;conv=>whnf) | exact rfl | (refine zt ?_;try intro h) | refine zu (λ h=>?_) λ h=>?_ | fail
   all_goals exact congrArg (λ b=>Res.ret (aa.bool b)) (decide_eq_false c)
 .have e:r=false:=by rw [<-d,decide_eq_false h1];rfl
  subst e;exact c_ Tryz.f210 λ_=>zW
noncomputable abbrev aL3:Func:=Tryz.f139
abbrev aMN (R:Sta) (Q:List Ev) (e:Int):Goal:=.full 1 (.ret (.tup [.slice 3 (evv Q) .no,ii e])) [qF R]
set_option maxHeartbeats 1000000 in
def aBY (s R:Sta) (hs:Sm s.run) (k:R={s with run:=atL s.run s.now}) (Q:List Ev):∀ (m i:Nat) (ev:List Ev),i+m=s.run.length->ev.length<=i->ev++wH (s.run.drop i) s.now=Q->
  To (Eo [6] []) aL3 (aMN R Q 0) (.head (stk aL3 0) [(0,.ref 0 0),(6,.slice 3 (evv ev) (.own 1 0)),(55,.slice 14 (rav s.run) .no),(56,.int .i64 ((rav s.run).length:Nat)),(57,ii i)] [qF s,evT 0]):=by
 have f:(rav s.run).length=s.run.length:=by simp
 have hl:=hs.1;intro m;induction m with
 | zero=>
  intro i ev l h a;rw [Ah o_] at a;have a:ev++[]=Q:=a;rw [Av] at a;subst a;have o:=aDR s.run hs s.now;generalize atL s.run s.now=ra at *
  subst k;refine gV ?_;exact zW
 | succ m c=>
  intro i ev l h a;have b:i<s.run.length:=o_;rw [Ae b] at a;have get:(rav s.run)[i]? =some s.run[i].av:=dL b;generalize s.run[i]=x at a get;have n:=DM x;have j:(evv ev).length<=1048576:=by simp;omega
  by_cases e:gD x<=s.now
  .rw [YG e] at a;have ao:=c (i+1) (ev++[⟨3,x.g.id,0⟩]) o_ q_ (by rw [Af];exact a)
   have d:evv (ev++[⟨3,x.g.id,0⟩])=evv ev++[Ev.av ⟨3,x.g.id,0⟩]:=by simp
   rw [d] at ao
   generalize gD x=t at *
   clear c a d;refine gV ?_;exact zW
  .rw [YH e] at a;have ao:=c (i+1) ev o_ o_ a
   generalize gD x=t at *
   clear c a;refine gV ?_;exact zW
set_option maxHeartbeats 1000000 in
def aBX (s:Sta) (n:Int) (i:s.c.sm) (hs:Sm s.run) (o:LtF s.hist) (d:s.hist.length<=1048576) (p:s.c.half<=9223372036854775807) (r:0<=s.now) (l:s.now<=1099511627776):
  ((kD s n).2.2≠0->ar 139 [.ref 0 0,ii n] [qF s] (.ret (.tup [.slice 3 [] .nil,ii (kD s n).2.2])) [qF (kD s n).1])/\((kD s n).2.2=0->ar 139 [.ref 0 0,ii n] [qF s] (.ret (.tup [.slice 3 (evv (kD s n).2.1) .no,ii 0])) [qF (kD s n).1]):=by
 have j:=aHJ n 1 1048576 _ rfl;unfold kD;by_cases a:n<1\/1048576<n
 .rw [if_pos a];have e:(decide (1<=n)&&decide (n<=1048576))=false:=by
   rcases a with q | q
   .rw [decide_eq_false o_];rfl
   .rw [decide_eq_false (show ¬ n<=1048576 by omega),Db]
  rw [e] at j;refine ⟨λ_=>?_,λ h=>by cases h⟩;exact zqya6
 rw [if_neg a];have t:1<=n:=o_;have u:n<=1048576:=o_;rw [decide_eq_true t,decide_eq_true u] at j;by_cases k:1099511627776-n<s.now
 .rw [if_pos k];refine ⟨λ_=>?_,λ h=>by cases h⟩;exact zqya6
 .rw [if_neg k];refine ⟨λ h=>absurd rfl h,λ_=>?_⟩;have b:=aEN s.c s.run;have hsl:(zS s.c s.run).length<=1048576:=by have:=i.ns;unfold zS ofL lX;rw [oA];simp;omega
  have h1:=WU s.c i s.run hs.1;have v:=aEv s.hist (zS s.c s.run) o d b hsl n s.c.half o_ p;have m:=aBY {s with hist:=tkL s.hist (zS s.c s.run) n s.c.half,now:=s.now+n} {s with hist:=tkL s.hist (zS s.c s.run) n s.c.half,now:=s.now+n,run:=atL s.run (s.now+n)} hs rfl _ s.run.length 0 [] s_ s_ rfl;rw [Ci] at m;generalize tkL s.hist (zS s.c s.run) n s.c.half=th at *
  generalize zS s.c s.run=sh at *
  generalize wH s.run (s.now+n)=Q at *
  generalize atL s.run (s.now+n)=ra at *
  exact zqya6
abbrev VO (s S:Sta) (c:Con) (e:Int):Prop:=ar 135 [.ref 0 0,c.av] [qF s] (.ret (ii e)) [qF S]
def aDt (s:Sta) (c:Con) (a:c.sm) (h:bT c≠0):VO s s c (bT c):=by
 have h1:=rV c a;generalize bT c=e at *
 have b:(e !=0)=true:=by simpa using h
 exact zqya9
def YY (s:Sta) (c:Con) (b:c.sm) (h:bT c=0) (hp:s.pend.length<=1000000) (hl:s.run.length<=1000000) (e:0<s.pend.length+s.run.length):VO s s c 7:=by
 have h1:=rV c b;rw [h] at h1;have d:(pnv s.pend).length=s.pend.length:=by simp
 have a:(rav s.run).length=s.run.length:=by simp
 exact zqya9
def ZI (c:Con):SD c=Aj c.ns.length 0:=by
 unfold SD;have h:∀ (l:List Nod) (i:Nat),dQ (λ_ _=>0) l i=Aj l.length 0:=by
  intro l;induction l with
  | nil=>intro i;rfl
  | cons x l a=>intro i;unfold dQ;rw [a];rfl
 exact h _ 0
set_option maxHeartbeats 1000000 in
def aHu (s:Sta) (c:Con) (a:c.sm) (h:bT c=0) (hp:s.pend=[]) (hl:s.run=[]):VO s {s with c:=c,hist:=Aj c.ns.length 0} c 0:=by
 have h1:=rV c a;rw [h] at h1;have k:(pnv s.pend).length=0:=by rw [hp];rfl
 have j:(rav s.run).length=0:=by rw [hl];rfl
 have i:=a.ns;have e:=a.hs;have b:=JP c.ns o_;have h3:=JQ c.hs o_;have d:=aD9 c a;rw [ZI] at d;generalize Aj c.ns.length 0=z at *
 refine cT (E:=(Er [] [24,38])) (fn:=Tryz.f135) (g:=.full 1 _ _) λ_=>?_
 repeat' first | (refine gN (hEr [] [24,38]) ?_;conv=>whnf) | refine .pure _ [] h1 ?_ | refine .pure _ [] b ?_ | exact rfl | (refine zt ?_;try intro h) | refine zu (λ h=>?_) λ h=>?_ | fail
 refine .pure _ [] h3 ?_;refine cO (hEr [] [24,38]) 27 ?_;conv=>whnf
 refine To.permAt (hEr [] [24,38]) [0,1,2,3,4,5,6,7,8] [9,10,11,12,13] (by rfl) ?_;conv=>whnf
 refine aL ?_;conv=>whnf;conv=>whnf
 refine aL ?_;conv=>whnf;conv=>whnf
 refine aL ?_;conv=>whnf;conv=>whnf
 refine aL ?_;conv=>whnf;conv=>whnf
 refine aL ?_;conv=>whnf;conv=>whnf
 refine aL ?_;conv=>whnf
 exact zW
abbrev ofC (x:Cmd) (v:aa):Prop:=ar 134 [x.av] [] (.ret v) []
def aMK (x:Cmd) (a:x.k=1):ofC x (.iface 229 (.agg x.c.cs)):=by exact zqya0
def aMJ (x:Cmd) (a:x.k=2):ofC x (.iface 233 (.agg x.g.cs)):=by exact zqya0
def aLt (x:Cmd) (a:x.k=3):ofC x (.iface 236 (.agg [ii x.n])):=by exact zqya0
def aJv (x:Cmd) (a:x.k=4):ofC x (.iface 238 (.agg [ii x.n])):=by exact zqya0
def aMI (x:Cmd) (a:x.k=5):ofC x (.iface 242 (.agg [ii x.n])):=by exact zqya0
def aMH (x:Cmd) (a:x.k=6):ofC x (.iface 245 (.agg [])):=by exact zqya0
abbrev kK (s:Sta) (x:Cmd) (R:Sta×List Ev×Int):Prop:=ar 71 [s.av,x.av] [] (.ret (.tup [R.1.av,.slice 3 (evv R.2.1) .no,ii R.2.2])) []
def aEU (s:Sta) (hs:StaSm' s) (x:Cmd) (e:Int) (a:C8.chk x=e) (h:e≠0):kK s x (s,[],e):=by
 have b:=nI s hs;have h1:=C8.check_any x e a;have c:(e !=0)=true:=by simpa using h
 exact zqya14
set_option maxHeartbeats 1000000 in
def aLh (s:Sta) (hs:StaSm' s) (x:Cmd) (i:C8.chk x=0) (j:x.k=2) (S:Sta) (e:Int) (l:e≠0->S=s) (a:aK8 s S x.g e):kK s x (S,[],e):=by
 have c:=nI s hs;have h1:=C8.check_any x 0 i;have d:=aMJ x j;by_cases b:e=0
 .subst b;refine c_ Tryz.f71 λ_=>?_
  repeat' first | (refine gN hE ?_;conv=>whnf) | refine .pure _ [] c ?_ | refine .pure _ [] h1 ?_ | refine .pure _ [] d ?_ | refine .eff [] [4] _ _ rfl a ?_ | exact rfl | (refine zt ?_;try intro h) | refine zu (λ h=>?_) λ h=>?_ | fail
 .have m:(e !=0)=true:=by simpa using b
  rw [l b] at a⊢;refine c_ Tryz.f71 λ_=>?_
  repeat' first | (refine gN hE ?_;conv=>whnf) | refine .pure _ [] c ?_ | refine .pure _ [] h1 ?_ | refine .pure _ [] d ?_ | refine .eff [] [4] _ _ rfl a ?_ | refine Ac (λ_=>?_) (λ h=>absurd (m.symm.trans h) d_) | exact rfl | (refine zt ?_;try intro h) | refine zu (λ h=>?_) λ h=>?_ | fail
set_option maxHeartbeats 1000000 in
def aLe (s:Sta) (hs:StaSm' s) (x:Cmd) (a:C8.chk x=0) (b:x.k=6) (S:Sta) (ev:List Ev) (d:ar 14 [s.av] [] (.ret (.tup [S.av,.slice 3 (evv ev) .no])) []):kK s x (S,ev,0):=by have c:=nI s hs;have h1:=C8.check_any x 0 a;have e:=aMH x b;exact zqya14
set_option maxHeartbeats 1000000 in
def aLf (s:Sta) (hs:StaSm' s) (x:Cmd) (i:C8.chk x=0) (j:x.k=5) (S:Sta) (ev:List Ev) (e:Int) (l:e≠0->S=s/\ev=[])
  (b:(e≠0->ar 139 [.ref 0 0,ii x.n] [qF s] (.ret (.tup [.slice 3 [] .nil,ii e])) [qF S])/\(e=0->ar 139 [.ref 0 0,ii x.n] [qF s] (.ret (.tup [.slice 3 (evv ev) .no,ii 0])) [qF S])):kK s x (S,ev,e):=by
 have c:=nI s hs;have h1:=C8.check_any x 0 i;have d:=aMI x j;by_cases a:e=0
 .have h3:=b.2 a;subst a;refine c_ Tryz.f71 λ_=>?_
  repeat' first | (refine gN hE ?_;conv=>whnf) | refine .pure _ [] c ?_ | refine .pure _ [] h1 ?_ | refine .pure _ [] d ?_ | refine .eff [] [4] _ _ rfl h3 ?_ | exact rfl | (refine zt ?_;try intro h) | refine zu (λ h=>?_) λ h=>?_ | fail
 .have m:(e !=0)=true:=by simpa using a
  have h3:=b.1 a;obtain ⟨rfl,rfl⟩:=l a;refine c_ Tryz.f71 λ_=>?_
  repeat' first | (refine gN hE ?_;conv=>whnf) | refine .pure _ [] c ?_ | refine .pure _ [] h1 ?_ | refine .pure _ [] d ?_ | refine .eff [] [4] _ _ rfl h3 ?_ | refine Ac (λ_=>?_) (λ h=>absurd (m.symm.trans h) d_) | exact rfl | (refine zt ?_;try intro h) | refine zu (λ h=>?_) λ h=>?_ | fail
set_option maxHeartbeats 1000000 in
def aAu (s:Sta) (hs:StaSm' s) (x:Cmd) (j:C8.chk x=0) (l:x.k=1) (S:Sta) (e:Int) (m:e≠0->S=s) (a:VO s S x.c e):kK s x (S,[],e):=by
 have d:=nI s hs;have h1:=C8.check_any x 0 j;have i:=aMK x l;by_cases b:e=0
 .subst b;refine c_ Tryz.f71 λ_=>?_
  repeat' first | (refine gN hE ?_;conv=>whnf) | refine .pure _ [] d ?_ | refine .pure _ [] h1 ?_ | refine .pure _ [] i ?_ | refine .eff [] [4] _ _ rfl a ?_ | exact rfl | (refine zt ?_;try intro h) | refine zu (λ h=>?_) λ h=>?_ | fail
 .have n:(e !=0)=true:=by simpa using b
  rw [m b] at a⊢;refine c_ Tryz.f71 λ_=>?_
  repeat' first | (refine gN hE ?_;conv=>whnf) | refine .pure _ [] d ?_ | refine .pure _ [] h1 ?_ | refine .pure _ [] i ?_ | refine .eff [] [4] _ _ rfl a ?_ | refine Ac (λ_=>?_) (λ h=>absurd (n.symm.trans h) d_) | exact rfl | (refine zt ?_;try intro h) | refine zu (λ h=>?_) λ h=>?_ | fail
def QF (n:Nat) (id:Int) (d:∀ x:Rn,aA Tryz.prog n [x.av,.ptr [ii id]] [] (.ret (.bool (bU id x))) []) (l:List Rn) (hl:l.length<=1048576) (r:Int):∀ (m i:Nat),i+m=l.length->aR (bU id) (l.drop i) i=r->
  To E GS (.full 1 (.ret (ii r)) (xB l)) (.head (stk GS 0) [(0,.row 0 0),(1,idF n id),(7,.int .i64 ((rav l).length:Nat)),(8,ii i)] (xB l)):=by
 have f:(rav l).length=l.length:=by simp
 intro m;induction m with
 | zero=>
  exact zqya13
 | succ m e=>
  intro i h a;have b:i<l.length:=o_;rw [Ae b] at a;have get:(rav l)[i]? =some l[i].av:=dL b;generalize l[i]=x at a get;unfold aR at a;have g:=d x;have e:=e (i+1) o_;cases c:bU id x with
  | true=>
   exact zqya15
  | false=>
   exact zqya10
def aCe (n:Nat) (id:Int) (a:∀ x:Rn,aA Tryz.prog n [x.av,.ptr [ii id]] [] (.ret (.bool (bU id x))) []) (l:List Rn) (hl:l.length<=1048576):ar 172 [.row 0 0,idF n id] (xB l) (.ret (ii (aR (bU id) l 0))) (xB l):=by
 have h:=QF n id a l hl _ l.length 0 o_ rfl;rw [Ci] at h;generalize aR (bU id) l 0=r at *
 refine cT (E:=E) (fn:=Tryz.f172) (g:=.full 1 _ _) λ_=>?_;exact zW
def FD (s:Sta) (id:Int) (hl:s.run.length<=1048576):ar 206 [s.avR 0 0,ii id] (xB s.run) (.ret (ii (aR (bU id) s.run 0))) (xB s.run):=by
 have h:=aCe _ id (FL id) s.run hl;generalize aR (bU id) s.run 0=r at *
 refine cT (E:=E) (fn:=Tryz.f206) (g:=.full 1 _ _) λ_=>?_
 repeat' first | (refine gN hE ?_;conv=>whnf) | refine .eff [2] [0] _ _ rfl h ?_ | exact rfl | (refine zt ?_;try intro h) | refine zu (λ h=>?_) λ h=>?_ | fail
 refine ⟨[],[0],⟨rfl,rfl⟩,rfl,rfl⟩
abbrev A6:aa:=.agg [ii 0,ii 0,ii 0,ii 0,ii 0,ii 0,ii 0,ii 0,ii 0,ii 0,ii 0,ii 0,ii 0,.slice 1 [] .no]
def PQ (xs:List Rn) (i:Nat) (d:i<xs.length) (e:xs.length<=1000000):ar 208 [.row 0 0,.int .i64 i,.int .i64 ((i:Int)+1)] (xB xs)
  (.ret (.sub 0 0 0 (xs.length-1) 14)) [.row 0 14 107 (rav (xs.eraseIdx i)++[A6])]:=by
 refine cT (E:=E) (fn:=Tryz.f208) (g:=.full 1 _ _) λ_=>?_;refine gV ?_;refine ⟨i,rfl,?_⟩;refine gV ?_;refine ⟨i+1,by push_cast;rfl,?_⟩;refine gV ?_;refine ⟨xs.length,by simp,?_⟩;refine gV ?_;refine ⟨⟨⟨by omega,by omega⟩,by simp⟩,?_⟩;refine gV ?_;refine ⟨λ h=>?_,λ h=>?_⟩
 .simp at h;omega
 .refine gV ?_;refine ⟨i,rfl,?_⟩;refine gV ?_;refine ⟨by simp;omega,?_⟩;refine gV ?_;refine ⟨i+1,by push_cast;rfl,?_⟩;refine gV ?_;refine ⟨by simp;omega,?_⟩;refine gV ?_;have a:(rav xs).length=xs.length:=by simp
  have b:(Ia ((rav xs).length-(i+1)) (Hi (i+1) (rav xs))).length=xs.length-(i+1):=by simp
  rw [b,a];refine ⟨by omega,?_⟩;refine gV ?_;refine ⟨xs.length-1,by omega,?_⟩;refine gV ?_;refine ⟨xs.length,rfl,?_⟩;refine gV ?_;refine ⟨by simp;omega,?_⟩;refine gV ?_;refine ⟨[],[0],⟨rfl,rfl⟩,?_⟩;conv=>whnf
  refine ⟨?_,?_⟩
  .show Res.ret (.sub 0 0 0 (i+(xs.length-(i+1))) 14)=_;rw [show i+(xs.length-(i+1))=xs.length-1 from by omega]
  .have h:=Q2.del_list (rav xs) i (by rw [a];exact d) A6;rw [a] at h;have c:(rav xs).eraseIdx i=rav (xs.eraseIdx i):=by simp only [rav,Ga,Bm,Gh,Ix]
   rw [c] at h;exact congrArg (λ l=>[ab.row 0 14 107 l]) h
abbrev aK9 (s:Sta) (run:aa):ab:=.cells 31 [.slice 11 (nav s.c.ns) .no,.slice 6 (hav s.c.hs) .no,ii s.c.half,ii s.c.age,ii s.now,ii s.nxt,.slice 11 (pnv s.pend) .no,run,.slice 1 (fv s.hist) .no]
abbrev aIN (s:Sta):List ab:=[aK9 s (.row 1 0),.row 0 14 107 (rav s.run)]
def S4 (s:Sta) (id:Int) (hl:s.run.length<=1000000) (h:¬ 0<=aR (bU id) s.run 0):ar 137 [.ref 0 0,ii id] (aIN s) (.ret (ii 4)) (aIN s):=by
 have h1:=FD s id o_;generalize aR (bU id) s.run 0=a at *
 exact zqya11
def S3 (s:Sta) (id:Int) (i:Nat) (hl:s.run.length<=1000000) (a:i<s.run.length) (h:aR (bU id) s.run 0=(i:Int)):ar 137 [.ref 0 0,ii id] (aIN s) (.ret (ii 0)) [aK9 s (.sub 1 0 0 (s.run.length-1) 14),.row 0 14 107 (rav (s.run.eraseIdx i)++[A6])]:=by
 have h1:=FD s id o_;have b:=PQ s.run i a hl;rw [h] at h1;generalize s.run.length-1=q at *
 generalize rav (s.run.eraseIdx i)++[A6]=K at *
 exact zqya11
set_option maxHeartbeats 1000000 in
def aI0 (s:Sta) (hs:StaSm' s) (x:Cmd) (a:C8.chk x=0) (d:x.k=3) (hl:s.run.length<=1000000) (h:¬ 0<=aR (bU x.n) s.run 0):kK s x (s,[],4):=by
 have c:=AI s hs;have h1:=C8.check_any x 0 a;have e:=aLt x d;have b:=S4 s x.n hl h;refine c_ Tryz.f71 λ_=>?_
 repeat' first | (refine gN hE ?_;conv=>whnf) | refine .pure _ _ c ?_ | refine .pure _ [] h1 ?_ | refine .pure _ [] e ?_ | refine .eff [] [6,5] _ _ rfl b ?_ | exact rfl | (refine zt ?_;try intro h) | refine zu (λ h=>?_) λ h=>?_ | fail
def aDo (l:List Rn) (i:Nat) (a:i<l.length):((rav (l.eraseIdx i)++[A6]).drop 0).take (l.length-1)=rav (l.eraseIdx i):=by
 have h:(rav (l.eraseIdx i)).length=l.length-1:=by simp [Kj,a]
 rw [Ci,<-h,List.take_left'];rfl
set_option maxHeartbeats 1000000 in
def aLg (s:Sta) (hs:StaSm' s) (x:Cmd) (c:C8.chk x=0) (j:x.k=3) (hl:s.run.length<=1000000) (i:Nat) (b:i<s.run.length) (h:aR (bU x.n) s.run 0=(i:Int)):kK s x ({s with run:=s.run.eraseIdx i},[],0):=by
 have e:=AI s hs;have h1:=C8.check_any x 0 c;have l:=aLt x j;have d:=S3 s x.n i hl b h;have a:=aDo s.run i b;unfold kK Sta.av Sta.cs;dsimp only;rw [<-a];generalize s.run.length-1=q at *
 generalize rav (s.run.eraseIdx i)++[A6]=K at *
 clear a;refine c_ Tryz.f71 λ_=>?_
 repeat' first | (refine gN hE ?_;conv=>whnf) | refine .pure _ _ e ?_ | refine .pure _ [] h1 ?_ | refine .pure _ [] l ?_ | refine .eff [] [6,5] _ _ rfl d ?_ | exact rfl | (refine zt ?_;try intro h) | refine zu (λ h=>?_) λ h=>?_ | fail
set_option maxHeartbeats 1000000 in
def aIX (s:Sta) (hs:StaSm' s) (x:Cmd) (a:C8.chk x=0) (c:x.k=4) (hp:s.pend.length<=1000000) (h:¬ iQ x.n s.pend<0):kK s x ({s with pend:=dI s.pend x.n},[],0):=by
 have d:=nI s hs;have h1:=C8.check_any x 0 a;have e:=aJv x c;have b:=qO s.pend x.n hp;rw [decide_eq_false h] at b;generalize dI s.pend x.n=pq at *
 exact zqya14
def KS {l:List Pn} {a:Int} (h:iQ a l<0):dI l a=l:=by unfold dI;rw [if_pos h]
set_option maxHeartbeats 1000000 in
def aIZ (s:Sta) (hs:StaSm' s) (x:Cmd) (b:C8.chk x=0) (i:x.k=4) (hp:s.pend.length<=1000000) (hl:s.run.length<=1000000) (h:iQ x.n s.pend<0) (c:¬ 0<=aR (bU x.n) s.run 0):kK s x (s,[],4):=by
 have e:=AI s hs;have h1:=C8.check_any x 0 b;have j:=aJv x i;have a:=qO s.pend x.n hp;rw [decide_eq_true h,KS h] at a;have d:=S4 s x.n hl c;refine c_ Tryz.f71 λ_=>?_
 repeat' first | (refine gN hE ?_;conv=>whnf) | refine .pure _ _ e ?_ | refine .pure _ [] h1 ?_ | refine .pure _ [] j ?_ | refine .pure _ [] a ?_ | refine .eff [] [6,5] _ _ rfl d ?_ | exact rfl | (refine zt ?_;try intro h) | refine zu (λ h=>?_) λ h=>?_ | fail
set_option maxHeartbeats 1000000 in
def aIY (s:Sta) (hs:StaSm' s) (x:Cmd) (d:C8.chk x=0) (m:x.k=4) (hp:s.pend.length<=1000000) (hl:s.run.length<=1000000) (h:iQ x.n s.pend<0) (i:Nat) (c:i<s.run.length) (e:aR (bU x.n) s.run 0=(i:Int)):kK s x ({s with run:=s.run.eraseIdx i},[],0):=by
 have l:=AI s hs;have h1:=C8.check_any x 0 d;have o:=aJv x m;have b:=qO s.pend x.n hp;rw [decide_eq_true h,KS h] at b;have j:=S3 s x.n i hl c e;have a:=aDo s.run i c;unfold kK Sta.av Sta.cs;dsimp only;rw [<-a];generalize s.run.length-1=q at *
 generalize rav (s.run.eraseIdx i)++[A6]=K at *
 clear a;refine c_ Tryz.f71 λ_=>?_
 repeat' first | (refine gN hE ?_;conv=>whnf) | refine .pure _ _ l ?_ | refine .pure _ [] h1 ?_ | refine .pure _ [] o ?_ | refine .pure _ [] b ?_ | refine .eff [] [6,5] _ _ rfl j ?_ | exact rfl | (refine zt ?_;try intro h) | refine zu (λ h=>?_) λ h=>?_ | fail
def aIj (id:Int):∀ (l:List Rn) (k i:Nat),(l.map λ x=>x.g.id).Nodup->aR (bU id) l k=((k+i:Nat):Int)->l.eraseIdx i=aE l [id]
 | [],k,i,_,h=>by have h:(-1:Int)=((k+i:Nat):Int):=h;omega
 | x::l,k,i,hn,h=>by
  rw [Bl,Ce] at hn;unfold aR at h;by_cases b:bU id x=true
  .rw [if_pos b] at h;obtain rfl:i=0:=o_;have a:x.g.id=id:=by unfold bU at b;simpa using b
   have h1:inB x.g.id [id]=true:=AR.2 (by rw [a];exact Jf _);rw [mA h1];show l=_;refine (Gq.2 λ y f=>?_).symm;have:y.g.id≠id:=λ e=>hn.1 (by rw [a,<-e];exact Cm f);cases c:inB y.g.id [id] with
   | false=>rfl
   | true=>exact absurd (by simpa using AR.1 c) this
  .rw [if_neg b] at h;rcases nY (bU id) l (k+1) with d | d
   .omega
   .obtain ⟨j,rfl⟩:∃ j,i=j+1:=⟨i-1,by omega⟩
    have h1:inB x.g.id [id]=false:=by
     cases c:inB x.g.id [id] with
     | false=>rfl
     | true=>exact absurd (by unfold bU;simpa using AR.1 c) b
    rw [lZ h1];show x::l.eraseIdx j=_;rw [aIj id l (k+1) j hn.2 (by rw [h];congr 1;omega)]
def aHH {s:Sta} (b:Base s) {n:Int} (h1:¬ iQ n s.pend<0) (d:0<=aR (bU n) s.run 0):False:=by
 obtain ⟨c,i⟩:=kP d;rcases AX n s.pend with ⟨_,h⟩ | ⟨A,p,B,e,hp,_⟩
 .omega
 .have a:=b.ids;rw [Bm,Bz] at a;exact a.2.2 n (by rw [e,<-hp];exact Cm (Cu _ (Ap ..))) n (by rw [<-i,Dx];exact Cm (f:=(λ x=>x.g.id) ∘ Rn.pn) c) rfl
def aAd (s:Sta) (g:Gan):(fM s g).2≠0->(fM s g).1=s:=by
 unfold fM;iterate 4 (split;· exact λ_=>rfl)
 exact λ h=>absurd rfl h
def WM (s:Sta) (n:Int):(kD s n).2.2≠0->(kD s n).1=s/\(kD s n).2.1=[]:=by
 unfold kD;iterate 2 (split;· exact λ_=>⟨rfl,rfl⟩)
 exact λ h=>absurd rfl h
def FK (s:Sta) (x:Cmd) (h:StOK s) (z:x.k=1->x.c.sm):kK s x (aV s x):=by
 have a:=h.run.sm;have u:=h.run.base.few;have o:=aBr (ai.once h.run.base (s:=s) (r:=⟨s,[],false,0⟩) (rest:=[]) ⟨rfl,rfl,rfl,rfl,Jl _,λ p hp=>(by cases hp),Hr,λ_=>rfl,a.run.2⟩);rw [Ai,Ch] at u;unfold aV;by_cases b:C8.chk x≠0
 .rw [if_pos b];exact aEU s a x _ rfl b
 rw [if_neg b];have b:C8.chk x=0:=Fh.1 b;have C:=aMj b;by_cases l:x.k=1
 .rw [if_pos l];have j:=z l;by_cases d:bT x.c≠0
  .rw [if_pos d];exact aAu s a x b l _ _ (λ_=>rfl) (aDt s x.c j d)
  rw [if_neg d];have d:bT x.c=0:=Fh.1 d;by_cases f:0<s.pend.length+s.run.length
  .rw [if_pos f];exact aAu s a x b l _ _ (λ_=>rfl) (YY s x.c j d o_ o_ f)
  .rw [if_neg f];exact aAu s a x b l _ _ (λ e=>absurd rfl e) (aHu s x.c j d (Cl.1 o_) (Cl.1 o_))
 rw [if_neg l];by_cases d:x.k=2
 .rw [if_pos d];exact aLh s a x b d _ _ (aAd s x.g) (aEG s x.g h.c o_ o_ h.nxt.2 h.nxt.1)
 rw [if_neg d];by_cases t:x.k=5
 .rw [if_pos t];exact aLf s a x b t _ _ _ (WM s x.n) (aBX s x.n h.c a.run h.run.ord.lt h.run.ord.hl h.half h.run.ord.now.1 h.run.ord.now.2)
 rw [if_neg t];by_cases w:x.k=6
 .rw [if_pos w];exact aLe s a x b w _ _ (aEX s h.run)
 rw [if_neg w];by_cases m:0<=aR (bU x.n) s.run 0
 .rw [if_pos m]
  obtain ⟨i,y⟩:∃ i:Nat,aR (bU x.n) s.run 0=(i:Int):=⟨_,(Ky m).symm⟩
  have q:i<s.run.length:=by rcases nY (bU x.n) s.run 0 with A | A<;>omega
  rw [<-aIj x.n s.run 0 i o (by rw [y];congr 1;omega)];by_cases f:x.k=3
  .exact aLg s a x b f o_ i q y
  .have B:iQ x.n s.pend<0:=Lk λ e=>aHH h.run.base e m;exact aIY s a x b o_ o_ o_ B i q y
 rw [if_neg m];by_cases v:x.k=3\/iQ x.n s.pend<0
 .rw [if_pos v];by_cases f:x.k=3
  .exact aI0 s a x b f o_ m
  .exact aIZ s a x b o_ o_ o_ (v.resolve_left f) m
 .rw [if_neg v];exact aIX s a x b o_ o_ o_
def oN:Sta:=⟨⟨[],[],0,0⟩,0,1,[],[],[]⟩
def BJ {f:Rn->Int} (q:Rn->Bool):∀ {l:List Rn},(∀ x∈l,0<=f x)->cG ((l.filter q).map f)<=cG (l.map f)
 | [],_=>Dh _
 | x::l,h=>by
  have c:=BJ q (l:=l) λ y b=>h y (Bd _ b);have d:=h x (Ap ..);have e:cG ((x::l).map f)=f x+cG (l.map f):=rfl;by_cases a:q x=true
  .rw [Ft a,e];show f x+cG _<=_;omega
  .rw [Fs a,e];omega
def KU {f:Rn->Int} {x:Rn}:∀ {l:List Rn},cG ((l++[x]).map f)=cG (l.map f)+f x
 | []=>by show f x+0=0+f x;omega
 | y::l=>by show f y+cG ((l++[x]).map f)=f y+cG (l.map f)+f x;rw [KU];omega
def OA {c:Con} {free:List V3} {g:Gan} {hs:List Int}:qA c free g hs=true↔(hs.length:Int)=g.pods/\(∃ G∈gpL c g.lev,∀ u∈hs,u∈G)/\∀ u∈hs,0<=u/\u<(free.length:Int)/\((hs.count u:Nat):Int)<=eD ((free[u.toNat]?).getD V3.zero) g.need:=by
 constructor
 .intro h;obtain ⟨h1,i⟩:=JS h;refine ⟨h1,?_,i⟩;unfold qA at h;rw [if_pos h1,Fq] at h;obtain ⟨G,f,h⟩:=h;unfold chkG at h;rw [Ad] at h;exact ⟨G,f,uD.1 h.1⟩
 .intro ⟨h1,⟨G,f,i⟩,h3⟩;unfold qA;rw [if_pos h1,Fq];refine ⟨G,f,?_⟩;unfold chkG;rw [uD.2 i,Cy];unfold DD;rw [Cq];intro u j;obtain ⟨a,b,d⟩:=h3 u j;unfold aCG;rw [if_neg q_,if_neg q_];have e:AB u hs=((hs.count u:Nat):Int):=by unfold AB;rw [xZ];omega
  rw [e];simp;omega
def aAK {free need:V3} {n:Int} (e:bI need=true) (h1:1<=n) (f:n<=16):n<=eD free need↔need.a*n<=free.a/\need.b*n<=free.b/\need.c*n<=free.c:=by
 constructor
 .exact rU e h1
 .intro ⟨a,b,d⟩;obtain ⟨i,l,k⟩:=cC e;have key:∀ x y:Int,0<=x->x*n<=y->x<=y:=λ x y j h=>by have:x*1<=x*n:=Ko h1 j;omega
  have g:cR need free=true:=E6.2 ⟨key _ _ i.1 a,key _ _ l.1 b,key _ _ k.1 d⟩;exact (TJ e g n).2 ⟨f,a,b,d⟩
structure am (g:Gan):Prop where
 v:bI g.need=true
 pods:1<=g.pods/\g.pods<=16
 lev:0<=g.pref/\g.pref<=g.lev/\g.lev<=3
 run:1<=g.run/\g.run<=1048576
 id:1<=g.id
def hC {c:Con} {g:Gan} (h:eM c g=0):am g:=by obtain ⟨h1,_⟩:=nW.1 h;unfold JX at h1;simp only [Ad,decide_eq_true_eq] at h1;exact ⟨h1.2.1,by omega,by omega,by omega,by omega⟩
def rI (p:V3->Int) (c:Con) (l:List Rn):Prop:=∀ j:Nat,j<c.hs.length->cG (l.map (uO p (j:Int)))<=p (bH c.hs (j:Int)).c
def aIp (c:Con) (r:Rn):Prop:=(r.hs.length:Int)=r.g.pods/\(∃ G∈gpL c r.g.lev,∀ u∈r.hs,u∈G)/\∀ u∈r.hs,0<=u/\u<(c.hs.length:Int)
structure HstOK (c:Con) (l:List Rn):Prop where
 a:rI V3.a c l
 b:rI V3.b c l
 d:rI V3.c c l
def rI.filter {p:V3->Int} {c:Con} {l:List Rn} (q:Rn->Bool) (a:∀ v,bI v=true->0<=p v) (d:∀ x∈l,am x.g) (h:rI p c l):rI p c (l.filter q):=λ j b=>
 Fk (BJ q λ x e=>Ld (a _ (d x e).v) o_) (h j b)
def HstOK.filter {c:Con} {l:List Rn} (q:Rn->Bool) (f:∀ x∈l,am x.g) (h:HstOK c l):HstOK c (l.filter q):=
 ⟨h.a.filter q (λ_ e=>(cC e).1.1) f,h.b.filter q (λ_ e=>(cC e).2.1.1) f,h.d.filter q (λ_ e=>(cC e).2.2.1) f⟩
def aKE {c:Con} {l:List Rn} (t:bT c=0) (m:∀ x∈l,am x.g) (B:(l.map λ x=>x.g.id).Nodup) (k:HstOK c l) {r:Rn} (q:r∈l) (hp:aIp c r):qA c (jR c (l.filter λ x=>!(x.g.id==r.g.id))) r.g r.hs=true:=by
 obtain ⟨D,z,w⟩:=hp;refine OA.2 ⟨D,z,λ u s=>?_⟩;obtain ⟨A,C⟩:=w u s;rw [wA];refine ⟨A,C,?_⟩;have o:=m r q;have n:0<r.hs.count u:=Lg.2 s;have y:r.hs.count u<=r.hs.length:=Mx;have F:=o.pods;refine (aAK o.v o_ o_).2 ?_
 obtain ⟨j,rfl⟩:∃ j:Nat,u=(j:Int):=⟨u.toNat,by omega⟩
 have i:j<c.hs.length:=o_;have key:∀ p:V3->Int,Prj p->(∀ v,bI v=true->0<=p v/\p v<=1048576)->rI p c l->p r.g.need*((r.hs.count (j:Int):Nat):Int)<=p (((jR c (l.filter λ x=>!(x.g.id==r.g.id)))[(j:Int).toNat]?).getD V3.zero):=λ p hp h hs=>by rw [Bt,UW hp (λ j i=>h _ (R1 t i)) (λ x G=>h _ (m x (Fm.1 G).1).v) i];have h1:=hs j i;rw [SZ (f:=uO p (j:Int)) q B] at h1;have e:uO p (j:Int) r=p r.g.need*((r.hs.count (j:Int):Nat):Int):=rfl;rw [<-e];omega
 exact ⟨key _ aFs (λ_ h=>(cC h).1) k.a,key _ aFr (λ_ h=>(cC h).2.1) k.b,key _ aFq (λ_ h=>(cC h).2.2) k.d⟩
def rI.more {p:V3->Int} {c:Con} {l:List Rn} {x:Rn} (hp:Prj p) (m:bT c=0) (d:∀ v,bI v=true->0<=p v/\p v<=1048576) (o:∀ free need (n:Int),bI need=true->1<=n->n<=eD free need->p need*n<=p free) (k:∀ y∈l,am y.g) (b:am x.g)
  (f:∀ u∈x.hs,((x.hs.count u:Nat):Int)<=eD (((jR c l)[u.toNat]?).getD V3.zero) x.g.need) (h:rI p c l):rI p c (l++[x]):=by
 intro j a;rw [KU];have q:=h j a;have e:uO p (j:Int) x=p x.g.need*((x.hs.count (j:Int):Nat):Int):=rfl;by_cases hm:(j:Int)∈x.hs
 .have i:0<x.hs.count (j:Int):=Lg.2 hm;have h1:=o _ _ _ b.v o_ (f _ hm);rw [Bt,UW hp (λ j a=>d _ (R1 m a)) (λ x b=>d _ (k x b).v) a,<-e] at h1;have hz:0<=uO p (j:Int) x:=Ld (d _ b.v).1 o_;unfold cZ at h1;omega
 .rw [e,Le.2 hm];simp;omega
def HstOK.more {c:Con} {l:List Rn} {x:Rn} (k:bT c=0) (j:∀ y∈l,am y.g) (m:am x.g) (f:∀ u∈x.hs,((x.hs.count u:Nat):Int)<=eD (((jR c l)[u.toNat]?).getD V3.zero) x.g.need) (h:HstOK c l):HstOK c (l++[x]):=
 ⟨h.a.more aFs k (λ_ e=>(cC e).1) (λ_ _ _ e h1 i=>(rU e h1 i).1) j m f,h.b.more aFr k (λ_ e=>(cC e).2.1) (λ_ _ _ e h1 i=>(rU e h1 i).2.1) j m f,h.d.more aFq k (λ_ e=>(cC e).2.2) (λ_ _ _ e h1 i=>(rU e h1 i).2.2) j m f⟩
def sV (c:Con) (l:List Rn):Prop:=∀ i:Nat,i<c.ns.length->cR (atV (ofL c l) (i:Int)) (pN c (i:Int))=true
def aFi {s:Sta}:LQ s=true↔sV s.c s.run:=by unfold LQ sV;rw [Cq];exact ⟨λ h i a=>h i (Hn.2 a),λ h i a=>h i (Hn.1 a)⟩
def am.dem {g:Gan} (h:am g):(dem g).pos:=aHk h.v ⟨by have:=h.pods;omega,h.pods.2⟩
def sV.filter {c:Con} {l:List Rn} (q:Rn->Bool) (a:∀ x∈l,am x.g) (h:sV c l):sV c (l.filter q):=λ i d=>
 uG.2 ((aFz (λ x b=>(a x b).dem) q (i:Int)).2.1.trans (uG.1 (h i d)))
def sV.more {c:Con} {l:List Rn} {x:Rn} (j:∀ y∈l,am y.g) (n:am x.g) (hm:MP c (ofL c l) x.g.ten (Go.Proofs.YtidhfoefaomodaaGreatDoor.dem x.g)=true) (hl:bB c.ns x.g.ten=true) (h:sV c l):sV c (l++[x]):=by
 intro i f;by_cases hp:(i:Int)∈fB c.ns x.g.ten
 .have h1:=(LP (λ y k=>(j y k).dem) n.dem hm _ hp).2;have e:T6 c x.g.ten (i:Int)=pN c (i:Int):=by
   unfold T6 pN;by_cases b:(i:Int)=x.g.ten
   .rw [if_pos b,b,if_pos hl]
   .rw [if_neg b,if_neg];intro d;unfold fB at hp;rw [Iu] at hp;exact b (UC d hp)
  rw [<-e];exact h1
 .have e:atV (ofL c (l++[x])) (i:Int)=atV (ofL c l) (i:Int):=by
   have a:c.ok (i:Int):=⟨by omega,by simpa using f⟩
   rw [yV a,yV a,Jn];show oL c _ _ x=_;unfold oL;rw [if_neg];intro m;exact hp (by unfold fB;rw [Iu];simpa using m.2)
  rw [e];exact h i f
def FS:∀ {l ns:List Nod} {i:Nat},jY ns i l=true->∀ k (h:k<l.length),nP (rlB ns ((i+k:Nat):Int)) (i+k) l[k]=true
 | [],_,_,_,k,h=>absurd h (Nat.not_lt_zero _)
 | x::l,ns,i,h0,k,h=>by
  unfold jY at h0;by_cases a:nP (rlB ns i) i x=true
  .rw [if_pos a] at h0;cases k with
   | zero=>exact a
   | succ k=>
    have:=FS h0 k (by simpa using h);rw [show i+1+k=i+(k+1) from by omega] at this;exact this
  .rw [if_neg a] at h0;cases h0
def zH {c:Con} (h:bT c=0):zR c/\jY c.ns 0 c.ns=true/\c.hs.all lF=true:=by
 unfold bT at h;split at h
 .split at h
  .split at h
   .exact ⟨by assumption,by assumption,by assumption⟩
   .omega
  .omega
 .omega
def E7 {v:V3} (h:bI v=true):v.pos:=by obtain ⟨a,b,d⟩:=cC h;exact ⟨a.1,b.1,d.1⟩
def MH {c:Con} (h:bT c=0) {i:Nat} (f:i<c.ns.length):(cW c.ns (i:Int)).n.pos/\(cW c.ns (i:Int)).b.pos:=by
 have h1:=FS (zH h).2.1 i f;have e:cW c.ns (i:Int)=c.ns[i]:=by unfold cW;rw [Bt,Aa f];rfl
 rw [e];unfold nP at h1;have d:∀ v:V3,zB v=true->v.pos:=λ v a=>by unfold zB at a;simp at a;exact ⟨by omega,by omega,by omega⟩
 split at h1
 .cases h1
 .split at h1
  .simp only [Ad] at h1;exact ⟨E7 h1.1,E7 h1.2.1⟩
  .simp only [Ad] at h1;exact ⟨d _ h1.1,d _ h1.2.1⟩
def aA8 {c:Con} (h:bT c=0):sV c []:=by
 intro i k
 have f:c.ok (i:Int):=⟨by omega,by simpa using k⟩
 rw [yV f];have hs:∀ p:V3->Int,Prj p->(∀ v:V3,v.pos->0<=p v)->0<=p (pN c (i:Int)):=λ p hp j=>by
  have d:0<=p (kS c.ns (i:Int) (pR c.ns))/\p (kS c.ns (i:Int) (pR c.ns))<=cZ:=by
   unfold kS;have hz:=hp.zero;have a:∀ e∈(bQ c.ns (i:Int)).map λ t=>p (atV (pR c.ns) t),0<=e:=λ e l=>by
    obtain ⟨t,m,rfl⟩:=Ca.1 l;have b:=kO c (i:Int) t m;rw [aBA b];have g:t=(t.toNat:Int):=by have:=b.1;omega
    rw [g];exact j _ (MH h b.2).1
   rw [H1 hp,hz,uW (Dh _) d_ a];have:=kT a;unfold cZ;omega
  unfold pN;split
  .rw [hp.add];have h1:=j _ (MH h k).2;rw [rG d.1 d.2 h1];unfold cZ;omega
  .exact d.1
 exact uG.2 ⟨hs _ aFs λ_ h=>h.1,hs _ aFr λ_ h=>h.2.1,hs _ aFq λ_ h=>h.2.2⟩
def X7 {c:Con} {free:List V3} {g:Gan} (A:1<=g.pods) (hl:0<=g.pref/\g.pref<=g.lev/\g.lev<=3) {x:Int×List Int} (h:zC c free g=some x):(bH c.hs (x.2.headD 0)).f=x.1:=by
 have d:∀ (j:List (List Int)),fdG c free g j=some x->∃ a∈j,x=((bH c.hs (a.headD 0)).f,inL free g a)/\¬ ((inL free g a).length:Int)<g.pods:=λ j=>by
  induction j with
  | nil=>intro h;cases h
  | cons a r k=>
   intro h;unfold fdG at h;by_cases h1:((inL free g a).length:Int)<g.pods
   .rw [if_pos (decide_eq_true h1)] at h;obtain ⟨q,m,s⟩:=k h;exact ⟨q,Bd _ m,s⟩
   .rw [if_neg (by rw [decide_eq_false h1];decide)] at h;cases h;exact ⟨a,Ap ..,rfl,h1⟩
 have b:∀ (n:Nat) (lv:Int),fdL c free g n lv=some x->∃ e,lv<=e/\e<lv+n/\fdG c free g (gpL c e)=some x:=λ n=>by
  induction n with
  | zero=>intro lv h;cases h
  | succ n k=>
   intro lv h;unfold fdL at h;cases i:fdG c free g (gpL c lv) with
   | some y=>
    rw [i] at h;cases h;exact ⟨lv,Dh _,by omega,i⟩
   | none=>
    rw [i] at h;obtain ⟨e,m,s,z⟩:=k (lv+1) h;exact ⟨e,by omega,by omega,z⟩
 unfold zC at h;obtain ⟨e,l1,l2,w⟩:=b _ _ h;obtain ⟨a,v,rfl,p⟩:=d _ w;have l:(inL free g a).headD 0∈a:=by
  have hm:(inL free g a).headD 0∈inL free g a:=by
   cases i:inL free g a with
   | nil=>rw [i] at p;simp at p;omega
   | cons y t=>exact Ap ..
  rcases QE a [] _ hm with h | h
  .cases h
  .exact h.1
 obtain ⟨_,u⟩:=I9 (c:=c) (lv:=e) o_ o_;have o:=(J4 o_ o_).1 ((u a v).2.2 _ l).2.2;unfold pT ofK at o;exact (Gi o).1.symm
abbrev Srt (l:List Pn):Prop:=l.Pairwise λ a b=>a.seq<b.seq
structure RunP (c:Con) (now:Int) (l:List Rn):Prop where
 time:∀ r∈l,r.at'<=r.st/\r.st<=now/\now<gD r/\(bH c.hs (r.hs.headD 0)).f=r.fl
 plc:∀ r∈l,aIp c r
 hst:HstOK c l
 quo:sV c l
def V5 (c:Con) (nxt now:Int) (x:Pn):Prop:=eM c x.g=0/\(cK c [] x.g).isNone=false/\(0<=x.seq/\x.seq<nxt)/\0<=x.at'/\x.at'<=now
structure OkS (s:Sta):Prop where
 head:fU s.c=true\/bT s.c=0
 now:0<=s.now/\s.now<=1099511627776
 nxt:1<=s.nxt/\s.nxt<=1099511627776
 hist:s.hist.length=s.c.ns.length
 few:s.pend.length+s.run.length<=32
 row:Srt s.pend
 gang:∀ x∈s.pend++s.run.map Rn.pn,V5 s.c s.nxt s.now x
 ids:((s.pend++s.run.map Rn.pn).map λ x=>x.g.id).Nodup
 seqs:((s.pend++s.run.map Rn.pn).map λ x=>x.seq).Nodup
 run:RunP s.c s.now s.run
def S5 {l:List Pn}:(l.map Pn.q).Pairwise (λ a b=>a.seq<b.seq)↔Srt l:=by rw [Fx];exact Np
def aE5 {l:List Pn} (h:(l.map λ x=>x.g.id).Nodup):aAI l=true↔Srt l:=by
 unfold aAI;rw [Q2.check_good];constructor
 .exact λ g=>S5.1 g.seq
 .refine λ g=>⟨S5.2 g,?_⟩
  rw [Fx];unfold Li at h;rw [Fx] at h;exact h
def UF (p:Q2.Pend):∀ {l:List Q2.Pend},l.Pairwise (λ a b=>a.seq<b.seq)->(∀ x∈l,x.seq≠p.seq)->(Q2.insP p l).Pairwise (λ a b=>a.seq<b.seq)/\∀ x∈Q2.insP p l,x=p\/x∈l
 | [],_,_=>⟨Je _ _,λ x c=>.inl (Dj.1 c)⟩
 | y::r,h,hn=>by
  rw [Cv] at h;unfold Q2.insP;by_cases d:p.seq<y.seq
  .rw [if_pos d];refine ⟨Cv.2 ⟨λ z hz=>?_,Cv.2 h⟩,λ x c=>Bb.1 c⟩;rcases Bb.1 hz with rfl | hz
   .exact d
   .have:=h.1 z hz;omega
  .rw [if_neg d];obtain ⟨h1,e⟩:=UF p h.2 λ x c=>hn x (Bd _ c);have f:=hn y (Ap ..);refine ⟨Cv.2 ⟨λ z hz=>?_,h1⟩,λ x c=>?_⟩
   .rcases e z hz with rfl | hz
    .omega
    .exact h.1 z hz
   .rcases Bb.1 c with rfl | c
    .exact .inr (Ap ..)
    .rcases e x c with rfl | c
     .exact .inl rfl
     .exact .inr (Bd _ c)
def TS {l:List Pn} {p:Pn} (h:Srt l) (a:∀ x∈l,x.seq≠p.seq):Srt (jO l p):=by refine S5.1 ?_;rw [aBb,Q2.putP_ins];refine (UF p.q (S5.2 h) λ x b=>?_).1;obtain ⟨y,c,rfl⟩:=Ca.1 b;exact a y c
def KR {l:List Pn} {a:Int} (h:Srt l):Srt (dI l a):=by
 unfold dI;split
 .exact h
 .exact h.sublist (List.eraseIdx_sublist ..)
structure SizOK (c:Con):Prop where
 ns:c.ns.length<=12
 hs:c.hs.length<=24
 half:0<=c.half/\c.half<=1048576
 age:0<=c.age/\c.age<=1048576
def GV {c:Con}:fU c=true↔c=⟨[],[],0,0⟩:=by obtain ⟨a,b,d,e⟩:=c;unfold fU;simp
def vW {c:Con} (h:fU c=true\/bT c=0):SizOK c:=by
 rcases h with h | h
 .rw [GV] at h;subst h;exact ⟨by simp,by simp,by decide,by decide⟩
 .have h1:=(zH h).1;unfold zR at h1;exact ⟨by omega,by omega,by omega,by omega⟩
def QX {c:Con} (h:fU c=true) (g:Gan):eM c g≠0:=by rw [GV] at h;subst h;intro e;have h1:=(nW.1 e).2;unfold bB at h1;simp at h1;omega
def CQ {c:Con} (h:fU c=true\/bT c=0) {g:Gan} (a:eM c g=0):bT c=0:=h.resolve_left λ e=>QX e g a
def aJS (s:Sta):ids s=(s.pend++s.run.map Rn.pn).map λ x=>x.g.id:=by unfold ids;rw [Bm,Dx];rfl
def aEP (s:Sta):seqs s=(s.pend++s.run.map Rn.pn).map λ x=>x.seq:=by unfold seqs;rw [Bm,Dx];rfl
def aBg {s:Sta} {p:Pn}:pnB s p=true↔V5 s.c s.nxt s.now p:=by unfold pnB V5;simp only [Ad,decide_eq_true_eq,Cx]
def JR {s:Sta} (h:OkS s):lW s=true:=by have a:=h.ids;rw [Bm,Bz] at a;unfold lW NB;simp only [Ad,Fc,decide_eq_true_eq,Cq];refine ⟨⟨h.head,h.now,h.nxt,h.hist,h.few⟩,(aE5 a.1).2 h.row,⟨λ p hp=>aBg.2 (h.gang p (Dd _ hp)),λ r b=>?_⟩,by rw [aJS];exact h.ids,by rw [aEP];exact h.seqs,aFi.2 h.run.quo⟩;have c:=h.gang r.pn (Cu _ (Cm b));refine ⟨aBg.2 c,?_⟩;obtain ⟨g,e,j,f⟩:=h.run.time r b;unfold rnB;simp only [Ad,decide_eq_true_eq];have d:=a.2.1;rw [Dx] at d;exact ⟨⟨⟨g,e⟩,j⟩,aKE (CQ h.head c.1) (λ x i=>hC (h.gang x.pn (Cu _ (Cm i))).1) d h.run.hst b (h.run.plc r b),f⟩
def OkS.base {s:Sta} (h:OkS s):Base s where
 c:=⟨by have:=(vW h.head).ns;omega,by have:=(vW h.head).hs;omega⟩
 ids:=h.ids
 seqs:=h.seqs
 few:=by rw [Ai,Ch];have:=h.few;omega
 gang x hx:=by have hn:=hC (h.gang x hx).1;have:=hn.pods;have:=hn.id;exact ⟨by omega,hn.v,by omega⟩
def Z2 (s:Sta) {l:List Pn} (h:(l.map λ x=>x.seq).Nodup):Tot (ltP s) l:=by unfold Tot;unfold Li at h;rw [Fx] at h;exact h.imp λ h=>aFY s h
def OkS.st {s:Sta} (h:OkS s) (hl:LtF s.hist):StOK s:=by
 have hz:=vW h.head;have h1:=hz.ns;have j:=hz.hs;have h3:=hz.half;have l:=hz.age;have f:=h.hist;have i:=h.few;have k:=h.nxt
 have b:Sm s.run:=⟨by omega,λ x d=>by
  have:=(h.run.plc x d).1;have:=(hC (h.gang x.pn (Cu _ (Cm d))).1).pods;have e:x.pn.g=x.g:=rfl;rw [e] at this
  omega⟩
 have a:=h.seqs;rw [Bm,Bz] at a;exact ⟨h.base.c,⟨h.base,⟨by omega,by omega,by omega,b,by omega⟩,⟨h.base.c,h1,hl,by omega,h.now,by omega⟩,λ p hp=>(h.gang p (Dd _ hp)).2.2.2.1,Z2 s a.1⟩,by omega,by omega⟩
def RunP.filter {c:Con} {now:Int} {l:List Rn} (q:Rn->Bool) (b:∀ x∈l,am x.g) (h:RunP c now l):RunP c now (l.filter q):=
 ⟨λ r a=>h.time r (Fm.1 a).1,λ r a=>h.plc r (Fm.1 a).1,h.hst.filter q b,h.quo.filter q b⟩
def OkS.needs {s:Sta} (h:OkS s):∀ x∈s.run,am x.g:=λ x a=>hC (h.gang x.pn (Cu _ (Cm a))).1
def OkS.part {s:Sta} (h:OkS s) {pend:List Pn} {run:List Rn} {rest:List Pn} (hp:((pend++run.map Rn.pn)++rest).Perm (s.pend++s.run.map Rn.pn)) (hs:Srt pend) (hr:RunP s.c s.now run):OkS {s with pend:=pend,run:=run} where
 head:=h.head
 now:=h.now
 nxt:=h.nxt
 hist:=h.hist
 few:=by have h1:=hp.length_eq;have h2:=h.few;simp only [Ai,Ch] at h1;show pend.length+run.length<=32;omega
 row:=hs
 gang x hx:=h.gang x (hp.mem_iff.1 (Dd _ hx))
 ids:=by have h1:=((hp.map λ x=>x.g.id).nodup_iff).2 h.ids;rw [Bm,Bz] at h1;exact h1.1
 seqs:=by have h1:=((hp.map λ x=>x.seq).nodup_iff).2 h.seqs;rw [Bm,Bz] at h1;exact h1.1
 run:=hr
def DG {α:Type} (q:α->Bool):∀ (l:List α),(l.filter q++l.filter λ x=>!q x).Perm l
 | []=>Jl _
 | x::l=>by
  have b:=DG q l;by_cases a:q x=true
  .rw [Ft a,Fs (by rw [a];decide)];exact b.cons x
  .rw [Fs a,Ft (by simpa using a)];exact Ej.trans (b.cons x)
def OkS.wo {s:Sta} (h:OkS s) (q:Rn->Bool):OkS {s with run:=s.run.filter q}:=by refine h.part (pend:=s.pend) (run:=s.run.filter q) (rest:=(s.run.filter λ x=>!q x).map Rn.pn) ?_ h.row (h.run.filter q h.needs);rw [Af,<-Bm];exact Dv _ ((DG q s.run).map _)
def OkS.take {s:Sta} (h:OkS s) (a:Int):OkS {s with pend:=dI s.pend a}:=by
 have b:=h.run;rcases AX a s.pend with ⟨_,e⟩ | ⟨A,p,B,c,f,d⟩
 .have:dI s.pend a=s.pend:=by unfold dI;rw [if_pos o_]
  rw [this];exact h
 .have e:dI s.pend a=A++B:=by unfold dI;rw [if_neg o_,d,c];show (A++p::B).eraseIdx A.length=_;rw [Jg (Bc _),Mm];rfl
  refine h.part (pend:=dI s.pend a) (run:=s.run) (rest:=[p]) ?_ (KR h.row) b;rw [e,c];refine Dw.trans ?_;show (p::((A++B)++_)).Perm _;rw [Af,Af];exact Ej.symm
structure RK (s:Sta) (r:Rd):Prop where
 row:Srt r.s.pend
 run:RunP s.c s.now r.s.run
def ai.gangA {s:Sta} {r:Rd} {rest:List Pn} (o:OkS s) (h:ai s r rest):∀ x∈r.s.pend++r.s.run.map Rn.pn,V5 s.c s.nxt s.now x:=λ x a=>o.gang x (h.perm.mem_iff.1 a)
def ai.needs {s:Sta} {r:Rd} {rest:List Pn} (o:OkS s) (h:ai s r rest):∀ x∈r.s.run,am x.g:=λ x a=>hC (h.gangA o x.pn (Cu _ (Cm a))).1
def RK.adm {s:Sta} {r:Rd} {p:Pn} {rest:List Pn} (o:OkS s) (h:ai s r (p::rest)) (k:RK s r) {x:Int×List Int} (e:cK r.s.c r.s.run p.g=some x):RK s (OY r p x.1 x.2):=by
 have hp:=h.gangA o p (Dd _ (h.sub p (Ap ..)));have b:=hC hp.1;have i:=CQ o.head hp.1;rw [h.c] at e;unfold cK at e;split at e
 .rename_i hm;obtain ⟨q,l⟩:=aCI b.v b.pods.1 b.lev e;have t:=X7 b.pods.1 b.lev e;obtain ⟨w,n,m⟩:=OA.1 l;have d:=h.needs o;refine ⟨KR k.row,⟨λ y a=>?_,λ y a=>?_,?_,?_⟩⟩
  .rcases Az.1 a with a | a
   .exact k.run.time y a
   .rw [Dj.1 a];have:=hp.2.2.2;have:=b.run;have:=o.now;refine ⟨by show p.at'<=r.s.now;rw [h.now];omega,by show r.s.now<=s.now;rw [h.now];omega,?_,t⟩;have j:=h.now;unfold gD;dsimp only;split
    .omega
    .split<;>omega
  .rcases Az.1 a with a | a
   .exact k.run.plc y a
   .rw [Dj.1 a];exact ⟨w,n,λ u f=>by have:=m u f;rw [wA] at this;exact ⟨this.1,this.2.1⟩⟩
  .exact k.run.hst.more i d b λ u f=>(q u f).2.2
  .exact k.run.quo.more d b hm (nW.1 hp.1).2
 .cases e
def NL (run:List Rn):∀ (ids:List Int) (r:Rd),Srt r.s.pend->((ids.map (λ id=>(xOf run id).pn)++r.s.pend).map λ x=>x.seq).Nodup->Srt (ids.foldl (dO run) r).s.pend
 | [],_,h,_=>h
 | id::ids,r,h,hn=>by
  rw [Ba];have hp:=xC r.s.pend (xOf run id).pn;rw [Bl,Cc,Bl,Ce] at hn;refine NL run ids (dO run r id) (TS h λ x a e=>hn.1 ?_) ?_
  .have e:x.seq=(xOf run id).pn.seq:=e;rw [<-e];exact Cm (Cu _ a)
  .have h1:(ids.map (λ id=>(xOf run id).pn)++(dO run r id).s.pend).Perm ((xOf run id).pn::(ids.map (λ id=>(xOf run id).pn)++r.s.pend)):=(Dv _ hp).trans Ej;refine ((h1.map λ x=>x.seq).nodup_iff).2 ?_;rw [Bl,Ce];exact hn
def RK.evic {s:Sta} {r:Rd} {rest:List Pn} (o:OkS s) (h:ai s r rest) (k:RK s r) {ids:List Int} (b:ids.Nodup) (a:∀ id∈ids,0<=aR (bU id) r.s.run 0):RK s (mJ r ids):=by
 refine ⟨NL r.s.run ids r k.row ?_,k.run.filter _ (h.needs o)⟩;have h1:=(L7 (h.once o.base) b a).map Rn.pn;rw [Bm,Dx] at h1;have c:((ids.map (λ id=>(xOf r.s.run id).pn)++r.s.pend)++(aE r.s.run ids).map Rn.pn).Perm (s.pend++s.run.map Rn.pn):=by refine Mr ?_ h.perm;refine (Dt _ Dw).trans ?_;rw [Af];exact Dv _ h1
 have h3:=((c.map λ x=>x.seq).nodup_iff).2 o.seqs;rw [Bm,Bz] at h3;exact h3.1
def RK.admR {s:Sta} {r:Rd} {p:Pn} {rest:List Pn} (o:OkS s) (h:ai s r (p::rest)) (k:RK s r):RK s (Go.Proofs.YtidhfoefaomodaaGreatDoor.admR r p).1:=by
 unfold Go.Proofs.YtidhfoefaomodaaGreatDoor.admR;cases a:cK r.s.c r.s.run p.g with
 | none=>exact k
 | some x=>
  obtain ⟨fl,hs⟩:=x;unfold EZ;dsimp only;split
  .exact k
  .exact k.adm o h a
def RK.look {s:Sta} {r:Rd} {p:Pn} {rest:List Pn} (o:OkS s) (h:ai s r (p::rest)) (k:RK s r):RK s (cQ r p):=by
 unfold cQ;split
 .exact k.admR o h
 .rename_i i;split
  .exact k
  .rename_i j;have a:r.head=false:=by cases d:r.head with | false=>rfl | true=>exact absurd d j
   have b:cK r.s.c r.s.run p.g=none:=by
    cases l:cK r.s.c r.s.run p.g with
    | none=>rfl
    | some x=>
     obtain ⟨fl,hs⟩:=x;refine absurd ?_ i;unfold Go.Proofs.YtidhfoefaomodaaGreatDoor.admR;rw [l];unfold EZ;dsimp only;rw [a];rfl
   cases d:gE r.s.c r.s.run p.g with
   | none=>
    show RK s (oQ r p _);cases sY r.s.c r.s.now r.s.run p.g with
    | none=>exact k
    | some n=>exact ⟨k.row,k.run⟩
   | some ids=>
    obtain ⟨_,f,_,e,_⟩:=yB o.base h b d;exact (k.evic o h f e).admR o (h.evic o.base f e)
def FM {s:Sta} (o:OkS s):∀ (L:List Pn) (r:Rd),J7 s r L->RK s r->RK s (L.foldl cQ r)
 | [],_,_,k=>k
 | p::L,r,h,k=>FM o L (cQ r p) (wY o.base r p L h) (k.look o h.1)
def OkS.round {s:Sta} (o:OkS s) (hl:LtF s.hist):OkS (oO s).s:=by
 have hst:=(o.st hl).run.start;have h1:=(BP o.base (B9 s) _ hst).1;have f:=FM o (B9 s) _ hst ⟨o.row,o.run⟩;have e:(oO s).s={s with pend:=(oO s).s.pend,run:=(oO s).s.run}:=by have a:=h1.c;have b:=h1.now;have c:=h1.nxt;have d:=h1.hist;change (oO s).s.c=s.c at a;change (oO s).s.now=s.now at b;change (oO s).s.nxt=s.nxt at c;change (oO s).s.hist=s.hist at d;rw [<-a,<-b,<-c,<-d]
 rw [e];refine o.part (rest:=[]) ?_ f.row f.run;rw [Av];exact h1.perm
def PH {s:Sta} (o:OkS s) (hl:LtF s.hist):(oO s).s.hist=s.hist/\(oO s).s.nxt=s.nxt/\(oO s).s.c=s.c/\(oO s).s.now=s.now:=by have h1:=(BP o.base (B9 s) _ (o.st hl).run.start).1;exact ⟨h1.hist,h1.nxt,h1.c,h1.now⟩
def aIF (h b:List Nat) (n half:Int):LtF (tkL h b n half):=by
 unfold tkL;have key:∀ (l:List Nat) (i:Nat),LtF (dQ (tkS b n half) l i):=λ l=>by
  induction l with
  | nil=>intro i x a;cases a
  | cons y l c=>
   intro i x a;rcases Bb.1 a with rfl | a
   .unfold tkS;split
    .exact V4 _ _
    .exact IT _ _
   .exact c (i+1) x a
 exact key h 0
def OkS.tick {s:Sta} (o:OkS s) (n:Int):OkS (kD s n).1/\(kD s n).1.nxt=s.nxt:=by
 unfold kD;split
 .exact ⟨o,rfl⟩
 .split
  .exact ⟨o,rfl⟩
  .have c:=o.wo λ x=>decide (s.now+n<gD x);have h:=o.now;refine ⟨⟨c.head,⟨by show 0<=s.now+n;omega,by show s.now+n<=_;omega⟩,c.nxt,?_,c.few,c.row,λ x i=>?_,c.ids,c.seqs,⟨λ r g=>?_,c.run.plc,c.run.hst,c.run.quo⟩⟩,rfl⟩
   .show (tkL _ _ _ _).length=_;unfold tkL;rw [oA];exact o.hist
   .obtain ⟨a,b,d,e,f⟩:=c.gang x i;exact ⟨a,b,d,e,by show x.at'<=s.now+n;have f:x.at'<=s.now:=f;omega⟩
   .obtain ⟨a,b,d,e⟩:=c.run.time r g;have j:=(Fm.1 g).2;exact ⟨a,by show r.st<=s.now+n;have b:r.st<=s.now:=b;omega,of_decide_eq_true j,e⟩
def OkS.conf {s:Sta} (o:OkS s) {c:Con} (d:bT c=0) (h:¬ 0<s.pend.length+s.run.length):OkS {s with c:=c,hist:=Aj c.ns.length 0}:=by have hp:s.pend=[]:=Cl.1 o_;have b:s.run=[]:=Cl.1 o_;obtain ⟨g,now,nxt,pend,run,hist⟩:=s;dsimp only at hp b;subst hp b;refine ⟨.inr d,o.now,o.nxt,by simp,by simp,Ln,λ x f=>(by cases f),Hr,Hr,⟨λ r b=>(by cases b),λ r b=>(by cases b),?_,aA8 d⟩⟩;have key:∀ p:V3->Int,(∀ v,bI v=true->0<=p v)->rI p c []:=λ p a j e=>a _ (R1 d e);exact ⟨key _ λ_ a=>(cC a).1.1,key _ λ_ a=>(cC a).2.1.1,key _ λ_ a=>(cC a).2.2.1⟩
def X9 {a:Int} {l:List Pn} (h:iQ a l<0):∀ p∈l,p.g.id≠a:=by
 rcases AX a l with ⟨h1,_⟩ | ⟨A,p,B,_,_,h1⟩
 .exact h1
 .omega
def OkS.submit {s:Sta} (o:OkS s) (m:s.nxt<1099511627776) (g:Gan):OkS (fM s g).1/\(fM s g).1.nxt<=s.nxt+1/\s.nxt<=(fM s g).1.nxt:=by
 unfold fM;iterate 4 (split;· exact ⟨o,by show s.nxt<=s.nxt+1;omega,Dh _⟩)
 rename_i h1 n h3 p;have h1:eM s.c g=0:=Fh.1 h1;refine ⟨?_,Dh _,by show s.nxt<=s.nxt+1;omega⟩;have hp:=xC s.pend ⟨g,s.nxt,s.now⟩;have h:(jO s.pend ⟨g,s.nxt,s.now⟩++s.run.map Rn.pn).Perm (⟨g,s.nxt,s.now⟩::(s.pend++s.run.map Rn.pn)):=Dt _ hp;have i:=o.now;have j:=o.nxt;refine ⟨o.head,o.now,⟨by show 1<=s.nxt+1;omega,by show s.nxt+1<=_;omega⟩,o.hist,?_,TS o.row λ x f e=>?_,λ x f=>?_,?_,?_,o.run⟩
 .have:=hp.length_eq;rw [Al] at this;show (jO s.pend _).length+s.run.length<=32;omega
 .have:=(o.gang x (Dd _ f)).2.2.1;have e:x.seq=s.nxt:=e;omega
 .rcases Bb.1 (h.mem_iff.1 f) with rfl | f
  .refine ⟨h1,by cases l:(cK s.c [] g).isNone with | true=>exact absurd l h3 | false=>rfl,⟨by show 0<=s.nxt;omega,by show s.nxt<s.nxt+1;omega⟩,i.1,Dh _⟩
  .obtain ⟨a,b,d,e⟩:=o.gang x f;exact ⟨a,b,⟨d.1,by show x.seq<s.nxt+1;omega⟩,e⟩
 .refine ((h.map λ x=>x.g.id).nodup_iff).2 (Ce.2 ⟨λ hm=>?_,o.ids⟩);obtain ⟨x,f,e⟩:=Ca.1 hm;have e:x.g.id=g.id:=e;rcases Az.1 f with f | f
  .exact X9 o_ x f e
  .obtain ⟨r,k,rfl⟩:=Ca.1 f;have:=DE s.run 0 r k e;omega
 .refine ((h.map λ x=>x.seq).nodup_iff).2 (Ce.2 ⟨λ hm=>?_,o.seqs⟩);obtain ⟨x,f,e⟩:=Ca.1 hm;have:=(o.gang x f).2.2.1;have e:x.seq=s.nxt:=e;omega
structure OkT (s:Sta):Prop where
 ok:OkS s
 lt:LtF s.hist
def OkT.apply {s:Sta} (o:OkT s) (b:s.nxt<1099511627776) (x:Cmd):OkT (aV s x).1/\(aV s x).1.nxt<=s.nxt+1/\s.nxt<=(aV s x).1.nxt:=by
 have same:OkT s/\s.nxt<=s.nxt+1/\s.nxt<=s.nxt:=⟨o,by omega,Dh _⟩
 unfold aV;split
 .exact same
 split
 .split
  .exact same
  .rename_i c;split
   .exact same
   .rename_i e;refine ⟨⟨o.ok.conf (Fh.1 c) e,λ y d=>?_⟩,same.2⟩;have:=List.eq_of_mem_replicate d;omega
 split
 .obtain ⟨h1,a⟩:=o.ok.submit b x.g;refine ⟨⟨h1,?_⟩,a⟩;have:(fM s x.g).1.hist=s.hist:=by
   unfold fM;iterate 4 (split;· rfl)
   rfl
  rw [this];exact o.lt
 split
 .obtain ⟨h1,a⟩:=o.ok.tick x.n;refine ⟨⟨h1,?_⟩,by rw [a];exact same.2⟩;unfold kD;split
  .exact o.lt
  .split
   .exact o.lt
   .exact aIF _ _ _ _
 split
 .obtain ⟨h1,a,_⟩:=PH o.ok o.lt;refine ⟨⟨o.ok.round o.lt,?_⟩,?_⟩
  .show LtF (oO s).s.hist;rw [h1];exact o.lt
  .show (oO s).s.nxt<=_/\_<=(oO s).s.nxt;rw [a];exact same.2
 split
 .exact ⟨⟨o.ok.wo _,o.lt⟩,same.2⟩
 split
 .exact same
 .exact ⟨⟨o.ok.take _,o.lt⟩,same.2⟩
def HZ:OkT oN:=by
 refine ⟨⟨.inl d_,by decide,by decide,rfl,by decide,Ln,λ x b=>(by cases b),Hr,Hr,⟨λ r a=>(by cases a),λ r a=>(by cases a),⟨?_,?_,?_⟩,?_⟩⟩,λ x b=>(by cases b)⟩
 all_goals exact λ j c=>absurd c (Nat.not_lt_zero _)
def two (a:Int) (b:Int) (x:Rn):Bool:=!((x.g.id==a)||(x.seq==b))
structure FairP (s:Sta):Prop where
 few:aMP s.c s.now s.run=1
 pend:s.pend.length<=32
 row:aAI s.pend=true
 hist:s.hist.length=s.c.ns.length
 gang:∀ p∈s.pend,aIc s.c.ns p.g≠0/\0<=p.at'/\p.at'<=s.now
 two:∀ p∈s.pend,∀ x∈s.run,x.g.id≠p.g.id/\x.seq≠p.seq
 once:s.run.Pairwise λ a b=>a.g.id≠b.g.id/\a.seq≠b.seq
structure FairS (s:Sta):Prop where
 siz:SizOK s.c
 chk:fU s.c=true\/bT s.c=0
 now:0<=s.now/\s.now<=1099511627776
 nxt:1<=s.nxt/\s.nxt<=1099511627776
 few:s.pend.length+s.run.length<=32
 hist:s.hist.length=s.c.ns.length
 row:Srt s.pend
 ids:((s.pend++s.run.map Rn.pn).map λ x=>x.g.id).Nodup
 seqs:((s.pend++s.run.map Rn.pn).map λ x=>x.seq).Nodup
 need:∀ x∈s.pend++s.run.map Rn.pn,am x.g
 at':∀ p∈s.pend,0<=p.at'/\p.at'<=s.now
 hs:∀ x∈s.run,x.hs.length<=16
def Ev.eqb (x y:Ev):Bool:=(x.k==y.k)&&((x.id==y.id)&&((x.n==y.n)&&true))
def Pn.eqb (x y:Pn):Bool:=(x.g.id==y.g.id)&&((x.g.ten==y.g.ten)&&((x.g.pods==y.g.pods)&&((x.g.need.a==y.g.need.a)&&((x.g.need.b==y.g.need.b)&&((x.g.need.c==y.g.need.c)&&((x.g.run==y.g.run)&&((x.g.lev==y.g.lev)&&((x.g.pref==y.g.pref)&&((x.seq==y.seq)&&((x.at'==y.at')&&true))))))))))
def JE {α:Type} [DecidableEq α] {f:α->α->Bool} (c:∀ x y,f x y=true↔x=y):∀ (a b:List α),C8.eqL f a b=decide (a=b)
 | [],[]=>rfl
 | [],_::_=>rfl
 | _::_,[]=>rfl
 | x::r,y::s=>by
  show (f x y&&C8.eqL f r s)=_;rw [JE c r s];cases h:f x y with
  | true=>
   have:=(c x y).1 h;subst this;simp
  | false=>
   have:x≠y:=λ e=>by rw [(c x y).2 e] at h;cases h
   simp [this]
noncomputable abbrev aL0:Func:=Tryz.f142
def aBw (x y:Rn) (h:x.hs.length=y.hs.length) (n:x.hs.length<=1048576) (r:Bool):∀ (m i:Nat),i+m=x.hs.length->decide (x.hs.drop i=y.hs.drop i)=r->
  To E aL0 (.pure (.ret (.bool r))) (.head (stk aL0 0) [(2,.ref 0 0),(3,.ref 1 0),(5,.int .i64 i)] [.cells 107 x.cs,.cells 107 y.cs]):=by
 have f:(iv x.hs).length=x.hs.length:=by simp
 intro m;induction m with
 | zero=>
  intro i j a;rw [Ah o_,Ah o_] at a;have a:true=r:=a;subst a;refine gV ?_;exact zW
 | succ m d=>
  intro i j a;have c:i<x.hs.length:=o_;have b:i<y.hs.length:=o_;rw [Ae c,Ae b] at a;have g:=fJ c;have k:=fJ b;generalize x.hs[i]=u at g a;generalize y.hs[i]=v at k a;have ao:=d (i+1) o_
  by_cases h1:u=v
  .have l:(u !=v)=false:=by simpa using h1
   have ao:=ao (by rw [<-a,h1];exact decide_eq_decide.2 ⟨λ e=>by rw [e],λ e=>(Gi e).2⟩)
   clear d a;refine gV ?_;exact zW
  .have l:(u !=v)=true:=by simpa using h1
   have a:false=r:=by rw [<-a,decide_eq_false λ e=>h1 (Gi e).1]
   subst a;clear d ao
   refine gV ?_;exact zW
def aJx (x y:Rn) (u:x.hs.length<=1048576):ar 142 [x.av,y.av] [] (.ret (.bool (decide (x=y)))) []:=by
 have p:(iv x.hs).length=x.hs.length:=by simp
 have q:(iv y.hs).length=y.hs.length:=by simp
 have a:(false !=false)=false:=rfl;by_cases h1:x.g=y.g
 .have s:(!(Gan.eqb x.g y.g))=false:=by rw [Gan.eqb_eq.2 h1];rfl
  by_cases d:x.seq=y.seq
  .have o:(x.seq !=y.seq)=false:=by simpa using d
   by_cases h3:x.at'=y.at'
   .have n:(x.at' !=y.at')=false:=by simpa using h3
    by_cases i:x.st=y.st
    .have l:(x.st !=y.st)=false:=by simpa using i
     by_cases k:x.fl=y.fl
     .have j:(x.fl !=y.fl)=false:=by simpa using k
      by_cases m:x.hs.length=y.hs.length
      .have b:(((iv x.hs).length:Int) !=((iv y.hs).length:Int))=false:=by rw [p,q,m];simp
       have c:=b;have t:decide (x.hs.drop 0=y.hs.drop 0)=decide (x=y):=by rw [Ci,Ci];obtain ⟨K,F,B,w,H,I⟩:=x;obtain ⟨v,D,G,C,J,z⟩:=y;dsimp only at h1 d h3 i k;subst h1 d h3 i k;simp
       have ao:=aBw x y m u _ x.hs.length 0 o_ t
       generalize decide (x=y)=r at *
       exact zqya3
      .have c:(((iv x.hs).length:Int) !=((iv y.hs).length:Int))=true:=by rw [p,q];simp;omega
       have b:=a;rw [decide_eq_false λ e=>m (by rw [e])];exact zqya3
     .have c:(x.fl !=y.fl)=true:=by simpa using k
      have j:=a;have b:=a;rw [decide_eq_false λ e=>k (by rw [e])];exact zqya3
    .have c:(x.st !=y.st)=true:=by simpa using i
     have l:=a;have j:=a;have b:=a;rw [decide_eq_false λ e=>i (by rw [e])];exact zqya3
   .have c:(x.at' !=y.at')=true:=by simpa using h3
    have n:=a;have l:=a;have j:=a;have b:=a;rw [decide_eq_false λ e=>h3 (by rw [e])];exact zqya3
  .have c:(x.seq !=y.seq)=true:=by simpa using d
   have o:=a;have n:=a;have l:=a;have j:=a;have b:=a;rw [decide_eq_false λ e=>d (by rw [e])];exact zqya3
 .have c:(!(Gan.eqb x.g y.g))=true:=by
   cases h:Gan.eqb x.g y.g with
   | false=>rfl
   | true=>exact absurd (Gan.eqb_eq.1 h) h1
  have s:=a;have o:=a;have n:=a;have l:=a;have j:=a;have b:=a;rw [decide_eq_false λ e=>h1 (by rw [e])];exact zqya3
noncomputable abbrev aLU:Func:=Tryz.f77
def aAw (a b:List Rn) (l:a.length=b.length) (hs:Sm a) (r:Bool):∀ (m i:Nat),i+m=a.length->decide (a.drop i=b.drop i)=r->
  To E aLU (.pure (.ret (.bool r))) (.head (stk aLU 0) [(0,.slice 14 (rav a) .no),(1,.slice 14 (rav b) .no),(5,.int .i64 i)] []):=by
 have j:(rav a).length=a.length:=by simp
 have hl:=hs.1;intro m;induction m with
 | zero=>
  intro i n c;exact zqya16
 | succ m h=>
  intro i n c;have f:i<a.length:=o_;have d:i<b.length:=o_;rw [Ae f,Ae d] at c;have k:=dL f;have o:=dL d;have g:=aJx a[i] b[i] (hs.at f);generalize a[i]=u at k c g;generalize b[i]=v at o c g;have ao:=h (i+1) o_
  by_cases h1:u=v
  .rw [decide_eq_true h1] at g;have ao:=ao (by rw [<-c,h1];exact decide_eq_decide.2 ⟨λ e=>by rw [e],λ e=>(Gi e).2⟩)
   clear h c;refine gV ?_;exact zW
  .rw [decide_eq_false h1] at g;have c:false=r:=by rw [<-c,decide_eq_false λ e=>h1 (Gi e).1]
   subst c;clear h ao
   refine gV ?_;exact zW
def aI1 (a b:List Rn) (hs:Sm a):ar 77 [.slice 14 (rav a) .no,.slice 14 (rav b) .no] [] (.ret (.bool (decide (a=b)))) []:=by
 have d:(rav a).length=a.length:=by simp
 have c:(rav b).length=b.length:=by simp
 by_cases h1:a.length=b.length
 .have h:(((rav a).length:Int) !=((rav b).length:Int))=false:=by rw [d,c,h1];simp
  have ao:=aAw a b h1 hs _ a.length 0 o_ (show _=decide (a=b) by rw [Ci,Ci])
  generalize decide (a=b)=r at *
  exact c_ Tryz.f77 λ_=>zW
 .have h:(((rav a).length:Int) !=((rav b).length:Int))=true:=by rw [d,c];simp;omega
  rw [decide_eq_false λ e=>h1 (by rw [e])];exact c_ Tryz.f77 λ_=>zW
noncomputable abbrev aL4:Func:=Tryz.f78
def aB0 (a b:List Nat) (k:a.length=b.length) (hl:a.length<=1048576) (r:Bool):∀ (m i:Nat),i+m=a.length->decide (a.drop i=b.drop i)=r->
  To E aL4 (.pure (.ret (.bool r))) (.head (stk aL4 0) [(0,.slice 1 (fv a) .no),(1,.slice 1 (fv b) .no),(5,.int .i64 i)] []):=by
 have h:(fv a).length=a.length:=by simp
 intro m;induction m with
 | zero=>
  intro i l c;exact zqya16
 | succ m g=>
  intro i l c;have f:i<a.length:=o_;have d:i<b.length:=o_;rw [Ae f,Ae d] at c;have j:(fv a)[i]? =some (uu a[i]):=by simp [f]
  have n:(fv b)[i]? =some (uu b[i]):=by simp [d]
  generalize a[i]=u at j c;generalize b[i]=v at n c;have ao:=g (i+1) o_
  by_cases h1:u=v
  .have o:((u:Int) !=(v:Int))=false:=by simp [h1]
   have ao:=ao (by rw [<-c,h1];exact decide_eq_decide.2 ⟨λ e=>by rw [e],λ e=>(Gi e).2⟩)
   clear g c;refine gV ?_;exact zW
  .have o:((u:Int) !=(v:Int))=true:=by simp;omega
   have c:false=r:=by rw [<-c,decide_eq_false λ e=>h1 (Gi e).1]
   subst c;clear g ao
   refine gV ?_;exact zW
def aJJ (a b:List Nat) (hl:a.length<=1048576):ar 78 [.slice 1 (fv a) .no,.slice 1 (fv b) .no] [] (.ret (.bool (decide (a=b)))) []:=by
 have d:(fv a).length=a.length:=by simp
 have c:(fv b).length=b.length:=by simp
 by_cases h1:a.length=b.length
 .have h:(((fv a).length:Int) !=((fv b).length:Int))=false:=by rw [d,c,h1];simp
  have ao:=aB0 a b h1 hl _ a.length 0 o_ (show _=decide (a=b) by rw [Ci,Ci])
  generalize decide (a=b)=r at *
  exact c_ Tryz.f78 λ_=>zW
 .have h:(((fv a).length:Int) !=((fv b).length:Int))=true:=by rw [d,c];simp;omega
  rw [decide_eq_false λ e=>h1 (by rw [e])];exact c_ Tryz.f78 λ_=>zW
def TF (a b:Sta):Bool:=(a.now==b.now)&&((a.nxt==b.nxt)&&(C8.sameC a.c b.c&&(decide (a.pend=b.pend)&&(decide (a.run=b.run)&&decide (a.hist=b.hist)))))
def aH6:∀ {a b:List Pn},a.map Pn.q=b.map Pn.q->a=b
 | [],[],_=>rfl
 | [],_::_,h=>by cases h
 | _::_,[],h=>by cases h
 | x::a,y::b,h=>by obtain ⟨h1,c⟩:=Gi h;rw [aH6 c];obtain ⟨⟨_,_,_,⟨_,_,_⟩,_,_,_⟩,_,_⟩:=x;obtain ⟨⟨_,_,_,⟨_,_,_⟩,_,_,_⟩,_,_⟩:=y;simp only [Pn.q,Q2.Pend.mk.injEq] at h1;obtain ⟨rfl,rfl,rfl,rfl,rfl,rfl,rfl,rfl,rfl,rfl,rfl⟩:=h1;rfl
def W0 (a b:Sta) (hs:Sm a.run) (n:a.hist.length<=1048576) (r:Bool) (d:TF a b=r):ar 29 [a.av,b.av] [] (.ret (.bool r)) []:=by
 have h1:=C8.rsame_c a.c b.c;have l:=Q2.same_ok (a.pend.map Pn.q) (b.pend.map Pn.q);rw [show decide (a.pend.map Pn.q=b.pend.map Pn.q)=decide (a.pend=b.pend) from decide_eq_decide.2 ⟨aH6,λ e=>by rw [e]⟩,yT,yT] at l;have h3:=aI1 a.run b.run hs;have o:=aJJ a.hist b.hist n;unfold TF at d;generalize C8.sameC a.c b.c=q1 at *
 generalize decide (a.pend=b.pend)=q2 at *
 generalize decide (a.run=b.run)=q3 at *
 generalize decide (a.hist=b.hist)=q4 at *
 have m:(true&&false)=false:=rfl;have j:(true&&true)=true:=rfl;cases i:(a.now==b.now) with
 | false=>
  rw [i] at d;have d:false=r:=d;subst d;have k:=i;have i:=j;have h:=j;exact zqya5
 | true=>
  rw [i] at d;cases h:(a.nxt==b.nxt) with
  | false=>
   rw [h] at d;have d:false=r:=d;subst d;have k:=h;have h:=j;exact zqya5
  | true=>
   rw [h] at d;have k:=m;cases q1 with
   | false=>
    exact zqya12
   | true=>
    cases q2 with
    | false=>
     exact zqya12
    | true=>
     cases q3 with
     | false=>
      exact zqya12
     | true=>
      have d:q4=r:=d;subst d;exact zqya5
def WZ {c d:Con}:C8.sameC c d=true↔c=d:=by obtain ⟨g,j,h,b⟩:=c;obtain ⟨a,i,k,e⟩:=d;unfold C8.sameC;rw [JE (f:=Nod.eqb) (λ_ _=>Nod.eqb_eq),JE (f:=Hos.eqb) (λ_ _=>Hos.eqb_eq)];simp
def PD (a:Sta):TF a a=true:=by unfold TF;rw [WZ.2 rfl];simp
def kQ (n:Int):Cmd:=⟨5,aHw,Gan.zero,n⟩
open Go.ChangeShapes Go.WideShapes Go.ChangeAt Go.RowKit
set_option maxRecDepth 100000
def aDJ {H:Type} (d:DataW H):1<=Rows.uptoBulk d:=by
 cases d with
 | lit l=>cases l<;>simp [Rows.uptoBulk]
 | _=>simp [Rows.uptoBulk]
def yF {H:Type} {d:DataW H}:∀ {l:List (DataW H)},d∈l->Rows.uptoBulk d<=Rows.uptoBulkAll l
 | [],h=>by cases h
 | x::r,h=>by
  simp only [Rows.uptoBulkAll];rcases Bb.1 h with rfl | h
  .omega
  .have:=yF h;omega
def OJ {H:Type}:∀ (l:List (DataW H)),l.length<=Rows.uptoBulkAll l
 | []=>by simp
 | x::r=>by have:=aDJ x;have:=OJ r;simp only [Rows.uptoBulkAll,Al];omega
def aMt (H:Type) (N:Nat):Bulk H N (λ d=>Rows.uptoBulk d<=N) where
 str l h:=by simp only [Rows.uptoBulk] at h;omega
 sl e r h:=by simp only [Rows.uptoBulk] at h;have:=OJ e;exact ⟨by omega,λ d hd=>by have:=yF hd;omega⟩
 agg l h:=by simp only [Rows.uptoBulk] at h;exact λ d hd=>by have:=yF hd;omega
section
variable {N:Nat}
def aIC {n:Nat} {cs:List aa} (h:TyN Tryz.prog N (n+1) 3 cs):∃ m:Int,cs=[ii m]/\ -9223372036854775808<=m/\m<=9223372036854775807:=by unfold TyN at h;rw [Tryz.underlying3] at h;obtain ⟨m,h,h1,a⟩:=h;simp only [cJ,bE] at h1 a;exact ⟨m,h,by omega,by omega⟩
def iC {n:Nat} {cs:List aa} (h:TyN Tryz.prog N (n+1) 3 cs):∃ m:Int,cs=[ii m]:=by unfold TyN at h;rw [Tryz.underlying3] at h;obtain ⟨m,h,_⟩:=h;exact ⟨m,h⟩
def KQ {n:Nat} {cs:List aa} (h:TyN Tryz.prog N (n+2) 43 cs):∃ v:V3,cs=v.cs:=by
 unfold TyN at h;rw [Tryz.underlying43] at h;obtain ⟨xs,hl,d,rfl⟩:=h
 match xs,hl,d with
 | [x,y,z],_,d=>
  obtain ⟨a,rfl⟩:=iC (d x s_);obtain ⟨b,rfl⟩:=iC (d y s_);obtain ⟨c,rfl⟩:=iC (d z s_);exact ⟨⟨a,b,c⟩,rfl⟩
def aIE {n:Nat} {cs:List aa} (h:TyN Tryz.prog N (n+3) 45 cs):∃ g:Gan,cs=g.cs:=by unfold TyN at h;rw [Tryz.underlying45] at h;obtain ⟨o,r,rfl,l,p,r,rfl,h1,x,r,rfl,b,w,r,rfl,h3,q,r,rfl,d,u,r,rfl,j,s,r,rfl,f,rfl⟩:=h;obtain ⟨c,rfl⟩:=iC l;obtain ⟨m,rfl⟩:=iC h1;obtain ⟨e,rfl⟩:=iC b;obtain ⟨v,rfl⟩:=KQ h3;obtain ⟨a,rfl⟩:=iC d;obtain ⟨i,rfl⟩:=iC j;obtain ⟨k,rfl⟩:=iC f;exact ⟨⟨c,m,e,v,a,i,k⟩,rfl⟩
def aDW {α:Type} {av:α->aa} {P:aa->Prop} {Q:α->Prop} (b:∀ x,P x->∃ p:α,x=av p/\Q p):∀ (xs:List aa),(∀ x∈xs,P x)->∃ l:List α,xs=l.map av/\∀ p∈l,Q p
 | [],_=>⟨[],rfl,λ p h=>by cases h⟩
 | x::xs,h=>by
  obtain ⟨p,rfl,hp⟩:=b x (h x s_);obtain ⟨l,rfl,hl⟩:=aDW b xs λ x c=>h x (by simp [c])
  exact ⟨p::l,rfl,λ q a=>by
   rcases Bb.1 a with rfl | a
   .exact hp
   .exact hl q a⟩
end
section
variable {N:Nat}
def aIB {n:Nat} {cs:List aa} (h:TyN Tryz.prog N (n+3) 179 cs):∃ x:Nod,cs=x.cs:=by unfold TyN at h;rw [Tryz.underlying179] at h;obtain ⟨f,r,rfl,d,g,r,rfl,h1,k,r,rfl,a,j,r,rfl,h3,i,r,rfl,c,rfl⟩:=h;obtain ⟨b,rfl⟩:=iC d;obtain ⟨e,rfl⟩:=iC h1;obtain ⟨u,rfl⟩:=KQ a;obtain ⟨v,rfl⟩:=KQ h3;obtain ⟨w,rfl⟩:=KQ c;exact ⟨⟨b,e,u,v,w⟩,rfl⟩
def aID {n:Nat} {cs:List aa} (h:TyN Tryz.prog N (n+3) 182 cs):∃ x:Hos,cs=x.cs:=by unfold TyN at h;rw [Tryz.underlying182] at h;obtain ⟨f,r,rfl,c,g,r,rfl,h1,j,r,rfl,d,i,r,rfl,h3,rfl⟩:=h;obtain ⟨e,rfl⟩:=iC c;obtain ⟨a,rfl⟩:=iC h1;obtain ⟨b,rfl⟩:=iC d;obtain ⟨v,rfl⟩:=KQ h3;exact ⟨⟨e,a,b,v⟩,rfl⟩
def aEs {n:Nat} {cs:List aa} (h:TyN Tryz.prog N (n+4) 23 cs):∃ l:List Nod,cs=[.slice 11 (nav l) .no]/\l.length<=N:=by
 unfold TyN at h;rw [Tryz.underlying23] at h;obtain ⟨xs,rfl,b,a⟩:=h;have c:Tryz.prog.cellsOf 179=11:=by kernel_rfl
 obtain ⟨l,rfl,hl⟩:=aDW (av:=Nod.av) (Q:=λ x=>True) (P:=λ x=>x∈xs) (λ x hm=>by
  obtain ⟨cs,rfl⟩:=(a x hm).2.1 (by kernel_rfl);obtain ⟨p,hp⟩:=aIB (n:=n) (a _ hm).1
  exact ⟨p,by unfold Nod.av;rw [<-hp];rfl,trivial⟩) xs λ x hm=>hm
 exact ⟨l,by rw [c],by simpa using b⟩
def aEt {n:Nat} {cs:List aa} (h:TyN Tryz.prog N (n+4) 24 cs):∃ l:List Hos,cs=[.slice 6 (hav l) .no]/\l.length<=N:=by
 unfold TyN at h;rw [Tryz.underlying24] at h;obtain ⟨xs,rfl,b,a⟩:=h;have c:Tryz.prog.cellsOf 182=6:=by kernel_rfl
 obtain ⟨l,rfl,hl⟩:=aDW (av:=Hos.av) (Q:=λ x=>True) (P:=λ x=>x∈xs) (λ x hm=>by
  obtain ⟨cs,rfl⟩:=(a x hm).2.1 (by kernel_rfl);obtain ⟨p,hp⟩:=aID (n:=n) (a _ hm).1
  exact ⟨p,by unfold Hos.av;rw [<-hp];rfl,trivial⟩) xs λ x hm=>hm
 exact ⟨l,by rw [c],by simpa using b⟩
def aK0 {n:Nat} {cs:List aa} (h:TyN Tryz.prog 1048576 (n+5) 26 cs):∃ c:Con,cs=c.cs/\c.sm:=by unfold TyN at h;rw [Tryz.underlying26] at h;obtain ⟨g,r,rfl,e,i,r,rfl,h1,k,r,rfl,b,j,r,rfl,h3,rfl⟩:=h;obtain ⟨ns,rfl,f⟩:=aEs (n:=n) e;obtain ⟨hs,rfl,l1⟩:=aEt (n:=n) h1;obtain ⟨d,rfl⟩:=iC b;obtain ⟨a,rfl⟩:=iC h3;exact ⟨⟨ns,hs,d,a⟩,rfl,⟨f,l1⟩⟩
end
structure StaSm (s:Sta):Prop where
 c:s.c.sm
 pend:s.pend.length<=1048576
 run:Sm s.run
 hist:s.hist.length<=1048576
 fix:∀ x∈s.hist,x<18446744073709551616
structure CmSm (x:Cmd):Prop where
 c:x.c.sm
 n: -9223372036854775808<=x.n/\x.n<=9223372036854775807
def aK1 {n:Nat} {cs:List aa} (h:TyN Tryz.prog 1048576 (n+6) 58 cs):∃ x:Cmd,cs=x.cs/\CmSm x:=by unfold TyN at h;rw [Tryz.underlying58] at h;obtain ⟨e,r,rfl,d,f,r,rfl,h1,j,r,rfl,a,i,r,rfl,h3,rfl⟩:=h;obtain ⟨k,rfl⟩:=iC d;obtain ⟨c,rfl,b⟩:=aK0 (n:=n) h1;obtain ⟨g,rfl⟩:=aIE (n:=n+2) a;obtain ⟨m,rfl,hm⟩:=aIC h3;exact ⟨⟨k,c,g,m⟩,rfl,b,hm⟩
section
variable {H:Type} {enc:TypeId×Value->H} {W:World} {r:Reach} {base b0:Nat} {spare:Nat->Bool} {held:Bool} {v:Value} {d:DataW H} {ps:List MemPlace}
end
end Go.Proofs.YtidhfoefaomodaaGreatDoor
