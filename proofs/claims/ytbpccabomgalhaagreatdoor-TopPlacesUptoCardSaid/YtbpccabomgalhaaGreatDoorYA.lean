/- Part 10 of what the statement rests on. -/
import Derived.Test.YtbpccabomgalhaaGreatDoorRows
import Derived.Test.YtbpccabomgalhaaGreatDoorDA
set_option linter.all false
set_option maxHeartbeats 1000000
open And renaming intro->Ab
open Bool renaming and_eq_true->Ad,and_false->Fc,not_eq_true'->Cw,or_eq_true->Ew,true_and->Dc
open Decidable renaming byContradiction->Lf,not_not->Fa
open Go.Value renaming okWide->Kx
open Iff renaming rfl->Nh
open Int renaming le_refl->Dd,le_trans->Fe,mul_le_mul_of_nonneg_left->Kj,mul_nonneg->Ky,toNat_natCast->Bn,toNat_of_nonneg->Kt
open List renaming Nodup->Ld,all_eq_true->Ct,any_eq_true->Fj,append_assoc->Ae,append_nil->Au,cons_append->Ca,count_eq_zero->Kz,count_le_length->Mp,count_pos_iff->Lb,drop->Hc,drop_eq_getElem_cons->Ag,drop_eq_nil_of_le->Ai,drop_zero->Cg,eraseIdx_append_of_length_le->Ja,eraseIdx_eq_take_drop_succ->Fu,filter_cons->Hh,filter_cons_of_neg->Fk,filter_cons_of_pos->Fl,filter_eq_self->Gj,filter_sublist->Kw,foldl_append->Ji,foldl_cons->Ba,getElem?_eq_getElem->Aa,getElem_mem->Bd,length->Lh,length_append->Ah,length_cons->Al,length_eq_zero_iff->Ck,length_eraseIdx->Kd,length_map->Cf,length_pos_iff->Dw,length_singleton->Mo,map_append->Bk,map_cons->Bl,map_drop->Ip,map_map->Dn,map_take->Ga,mem_append->Az,mem_append_left->De,mem_append_right->Cv,mem_cons->Bc,mem_cons_of_mem->Bb,mem_cons_self->Ar,mem_filter->Fg,mem_map->Bq,mem_map_of_mem->Cc,mem_range->Jg,mem_reverse->Ij,mem_singleton->Dh,mem_singleton_self->Iz,nodup_append->Cs,nodup_cons->Bx,nodup_nil->Hj,pairwise_cons->Cr,pairwise_map->Fs,pairwise_singleton->Iy,perm_append_comm->Dv,perm_middle->Eh,replicate->Aj,take->Hr,take_append_drop->Bp
open List.Pairwise renaming imp->Je,nil->Li
open List.Perm renaming append_left->Du,append_right->Dq,refl->Jf,trans->Mk
open Nat renaming le_refl->Bf,le_succ->Hl,le_trans->Cx,mul_le_mul->Gc,sub_self->Md,zero_add->Bw
open Option renaming isSome_iff_exists->Cy
namespace Go.Proofs.YtbpccabomgalhaaGreatDoor
open Go Go.AW Go.Proofs
set_option maxRecDepth 10000
def zqya0{P:Prop}(h:P:=by
 obtain ⟨k,c,g,n⟩:=x;dsimp only at a;subst a
 exact c_ Tryz.f46 λ_=>zW):P:=h
def zqya1{P:Prop}(h:P:=by
 refine cT (E:=E) (fn:=Tryz.f48) (g:=.full 1 _ _) λ_=>?_
 exact zW):P:=h
def zqya2{P:Prop}(h:P:=by
 have b:rav (s.run++[⟨p.g,p.seq,p.at',s.now,x.1,x.2⟩])=rav s.run++[Rn.av ⟨p.g,p.seq,p.at',s.now,x.1,x.2⟩]:=by simp
 unfold rdS rdO rdC ruV at a;dsimp only at a;rw [b] at a;generalize dN s.pend p.g.id=pq at *
 clear b e;refine cT (E:=(Er [] [60,64,86,87,88])) (fn:=Tryz.f135) (g:=.full 3 _ _) λ_=>?_
 exact zW):P:=h
def zqya3{P:Prop}(h:P:=by
 refine cT (E:=(Er [] [39,40,59,60,61,62,63,64])) (fn:=Tryz.f91) (g:=.full 3 _ _) λ_=>?_
 exact zW):P:=h
def zqya4{P:Prop}(h:P:=by
 refine cT (E:=(Eo [6] [])) (fn:=Tryz.f51) (g:=.full 1 _ _) λ_=>?_
 exact zW):P:=h
def zqya5{P:Prop}(h:P:=by
 refine cT (E:=(Er [] [60,64,86,87,88])) (fn:=Tryz.f135) (g:=.full 3 _ _) λ_=>?_
 exact zW):P:=h
def zqya6{P:Prop}(h:P:=by
 intro i a o q b;rw [Ai o_] at b;have b:a++[]=R:=b;rw [Au] at b;subst b;refine gV ?_
 exact zW):P:=h
def zqya7{P:Prop}(h:P:=by
 refine cT (E:=(Er [] [24,38])) (fn:=Tryz.f47) (g:=.full 1 _ _) λ_=>?_
 exact zW):P:=h
def zqya8{P:Prop}(h:P:=by
 rw [if_neg (by rw [c];decide)] at a;rw [c] at f;have next:=e a
 refine gV ?_
 exact zW):P:=h
def zqya9{P:Prop}(h:P:=by
 rw [d] at j;rw [mM d] at b;have next:=h (i+1) a o_ o_ b
 refine gV ?_
 exact zW):P:=h
def zqya10{P:Prop}(h:P:=by
 refine cT (E:=E) (fn:=Tryz.f49) (g:=.full 2 _ _) λ_=>?_
 exact zW):P:=h
def zqya11{P:Prop}(h:P:=by
 intro i h a;rw [Ai o_] at a;have a: -1=r:=a;subst a;refine gV ?_
 exact zW):P:=h
def zqya12{P:Prop}(h:P:=by exact c_ Tryz.f28 λ_=>zW):P:=h
def zqya13{P:Prop}(h:P:=by
 rw [if_pos c] at a;rw [c] at f;subst a;refine gV ?_
 exact zW):P:=h
def KA(l:bb)(h:l.length<=1048576):aq 18 [.slice 11 (nav l) .no] [] (.ret (.slice 11 (nav l) .no)) []:=by
 have a:(nav l).length=l.length:=by simp
 refine c_ Tryz.f18 λ_=>gV ?_;intro b c;refine gV ?_;refine ⟨λ h=>?_,λ h=>?_⟩
 .have h:b=true:=h;have e:nav l=[]:=c h;refine gV ?_;rw [e]
 .have h:b=false:=h;exact zW
def KC(l:List Hos)(h:l.length<=1048576):aq 68 [.slice 6 (hav l) .no] [] (.ret (.slice 6 (hav l) .no)) []:=by
 have a:(hav l).length=l.length:=by simp
 refine c_ Tryz.f68 λ_=>gV ?_;intro b c;refine gV ?_;refine ⟨λ h=>?_,λ h=>?_⟩
 .have h:b=true:=h;have e:hav l=[]:=c h;refine gV ?_;rw [e]
 .have h:b=false:=h;exact zW
def SP(l:a7)(h:l.length<=1048576):aq 19 [.slice 11 (pnv l) .no] [] (.ret (.slice 11 (pnv l) .no)) []:=by
 have a:(pnv l).length=l.length:=by simp
 refine c_ Tryz.f19 λ_=>gV ?_;intro b c;refine gV ?_;refine ⟨λ h=>?_,λ h=>?_⟩
 .have h:b=true:=h;have e:pnv l=[]:=c h;refine gV ?_;rw [e]
 .have h:b=false:=h;exact zW
def SQ(l:az)(h:l.length<=1048576):aq 69 [.slice 1 (fv l) .no] [] (.ret (.slice 1 (fv l) .no)) []:=by
 have a:(fv l).length=l.length:=by simp
 refine c_ Tryz.f69 λ_=>gV ?_;intro b c;refine gV ?_;refine ⟨λ h=>?_,λ h=>?_⟩
 .have h:b=true:=h;have e:fv l=[]:=c h;refine gV ?_;rw [e]
 .have h:b=false:=h;exact zW
abbrev xP(l:a6):au:=[.row 0 14 48 (rav l)]
def aAf(l:a6)(hs:Sm l)(ids:aw)(hd:ids.length<=1048576)(R:a6):∀ (m i:Nat) (a:a6),i+m=l.length->a.length<=i->a++aE (l.drop i) ids=R->
  To (Er [5] []) fWo (.full 0 (.ret (.row 0 0)) (xP R)) (.head (stk fWo 0) [(1,.slice 1 (iv ids) .no),(5,.row 0 0),(8,.slice 14 (rav l) .no),(9,.int .i64 ((rav l).length:Nat)),(10,ii i)] (xP a)):=by
 have n:(rav l).length=l.length:=by simp
 have hl:=hs.1;intro m;induction m with
 | zero=>
  exact zqya6
 | succ m h=>
  intro i a o q b;have c:i<l.length:=o_;have k:=hs.at c;rw [Ag c] at b;generalize p:l[i]=x at b k;have get:(rav l)[i]? =some x.av:=(eX c).trans (by rw [p]);have r:(rav a).length=a.length:=by simp
  have j:=xA ids hd x.g.id;cases d:inB x.g.id ids with
  | true=>
   exact zqya9
  | false=>
   rw [d] at j;rw [mL d] at b;have next:=h (i+1) (a++[x]) o_ q_ (by rw [Ae];exact b)
   have e:rav (a++[x])=rav a++[x.av]:=by simp
   unfold xP at next
   rw [e] at next
   refine gV ?_;have f:=AX x k;exact zW
def aJo(l:a6)(hs:Sm l)(ids:aw)(hd:ids.length<=1048576):aq 70 [.slice 14 (rav l) .no,.slice 1 (iv ids) .no] [] (.ret (.row 0 0)) (xP (aE l ids)):=by have h1:=aAf l hs ids hd _ l.length 0 [] o_ s_ rfl;refine cT (E:=(Er [5] [])) (fn:=Tryz.f70) (g:=.full 0 _ _) λ_=>?_;exact zW
def aEW(l:a6)(hs:Sm l):aq 70 [.slice 14 (rav l) .no,.nilslice] [] (.ret (.row 0 0)) (xP l):=by have h:=aJo l hs [] s_;rw [fR] at h;exact aA.nil2 h
abbrev L5:au:=[.tail 0 14 48]
def aAh(l:a6)(hs:Sm l)(ids:aw)(hd:ids.length<=1048576)(R:a6):∀ (m i:Nat) (a:a6),i+m=l.length->a.length<=i->a++aE (l.drop i) ids=R->
  To (Eo [5] []) fWo (.full 0 (.ret (.slice 14 (rav R) (.own 0 0))) L5) (.head (stk fWo 0) [(1,.slice 1 (iv ids) .no),(5,.slice 14 (rav a) (.own 0 0)),(8,.slice 14 (rav l) .no),(9,.int .i64 ((rav l).length:Nat)),(10,ii i)] L5):=by
 have n:(rav l).length=l.length:=by simp
 have hl:=hs.1;intro m;induction m with
 | zero=>
  exact zqya6
 | succ m h=>
  intro i a o q b;have c:i<l.length:=o_;have k:=hs.at c;rw [Ag c] at b;generalize p:l[i]=x at b k;have get:(rav l)[i]? =some x.av:=(eX c).trans (by rw [p]);have r:(rav a).length=a.length:=by simp
  have j:=xA ids hd x.g.id;cases d:inB x.g.id ids with
  | true=>
   exact zqya9
  | false=>
   rw [d] at j;rw [mL d] at b;have next:=h (i+1) (a++[x]) o_ q_ (by rw [Ae];exact b)
   have e:rav (a++[x])=rav a++[x.av]:=by simp
   rw [e] at next
   refine gV ?_;have f:=AX x k;exact zW
def aAg(l:a6)(hs:Sm l)(ids:aw)(hd:ids.length<=1048576):aq 70 [.slice 14 (rav l) .no,.slice 1 (iv ids) .no] [] (.ret (.slice 14 (rav (aE l ids)) (.own 0 0))) L5:=by have h1:=aAh l hs ids hd _ l.length 0 [] o_ s_ rfl;refine cT (E:=(Eo [5] [])) (fn:=Tryz.f70) (g:=.full 0 _ _) λ_=>?_;exact zW
def aEX(l:a6)(hs:Sm l):aq 70 [.slice 14 (rav l) .no,.nilslice] [] (.ret (.slice 14 (rav l) (.own 0 0))) L5:=by have h:=aAg l hs [] s_;rw [fR] at h;exact aA.nil2 h
structure StaSm'(s:Sta):Prop where
 ns:s.c.ns.length<=1048576
 hs:s.c.hs.length<=1048576
 pend:s.pend.length<=1048576
 run:Sm s.run
 hist:s.hist.length<=1048576
def Sta.avR(s:Sta)(k g:Nat):aa:=.agg [.slice 11 (nav s.c.ns) .no,.slice 6 (hav s.c.hs) .no,ii s.c.half,ii s.c.age,ii s.now,ii s.nxt,.slice 11 (pnv s.pend) .no,.row k g,.slice 1 (fv s.hist) .no]
def Sta.avO(s:Sta)(k g:Nat):aa:=.agg [.slice 11 (nav s.c.ns) .no,.slice 6 (hav s.c.hs) .no,ii s.c.half,ii s.c.age,ii s.now,ii s.nxt,.slice 11 (pnv s.pend) .no,.slice 14 (rav s.run) (.own k g),.slice 1 (fv s.hist) .no]
def aIq(s:Sta)(h:StaSm' s):aq 89 [s.av] [] (.ret (s.avO 0 0)) L5:=by have h1:=KA s.c.ns h.ns;have a:=KC s.c.hs h.hs;have h3:=SP s.pend h.pend;have b:=SQ s.hist h.hist;have d:=aEX s.run h.run;refine cT (E:=E) (fn:=Tryz.f89) (g:=.full 0 _ _) λ_=>?_;exact zW
def A0(s:Sta)(h:StaSm' s):aq 44 [s.av] [] (.ret (s.avR 0 0)) (xP s.run):=by have h1:=KA s.c.ns h.ns;have a:=KC s.c.hs h.hs;have h3:=SP s.pend h.pend;have b:=SQ s.hist h.hist;have d:=aEW s.run h.run;refine cT (E:=E) (fn:=Tryz.f44) (g:=.full 0 _ _) λ_=>?_;exact zW
abbrev rdC(r:Rd)(run:aa)(ge:Nat):ax:=[.slice 11 (nav r.s.c.ns) .no,.slice 6 (hav r.s.c.hs) .no,ii r.s.c.half,ii r.s.c.age,ii r.s.now,ii r.s.nxt,.slice 11 (pnv r.s.pend) .no,run,.slice 1 (fv r.s.hist) .no,.slice 3 (evv r.ev) (.own 1 ge),.bool r.head,ii r.start]
abbrev rdO(r:Rd)(run:aa)(ge:Nat):ab:=.cells 192 (rdC r run ge)
abbrev evT(g:Nat):ab:=.tail g 3 75
abbrev ruT(g:Nat):ab:=.tail g 14 48
abbrev ruV(l:a6)(k g:Nat):aa:=.slice 14 (rav l) (.own k g)
abbrev rdS(r:Rd)(ge gr:Nat):au:=[rdO r (ruV r.s.run 2 gr) ge,evT ge,ruT gr]
def lM(r:Rd)(e:Ev):Rd:=⟨r.s,r.ev++[e],r.head,r.start⟩
def JB(r:Rd)(k id n:Int)(hl:r.ev.length<=1048576):aq 139 [.ref 0 0,ii k,ii id,ii n] (rdS r 0 0) (.ret (.tup [])) (rdS (lM r ⟨k,id,n⟩) 1 0):=by
 have a:(evv r.ev).length=r.ev.length:=by simp
 have e:evv (r.ev++[⟨k,id,n⟩])=evv r.ev++[Ev.av ⟨k,id,n⟩]:=by simp
 unfold lM;show aA _ _ _ _ _ [.cells _ [_,_,_,_,_,_,_,_,_,.slice 3 (evv (r.ev++[⟨k,id,n⟩])) (.own 1 1),_,_],_,_];rw [e];refine cT (E:=E) (fn:=Tryz.f139) (g:=.full 3 _ _) λ_=>?_;exact zW
def MU(r:Rd)(l:a6)(k id n:Int)(hl:r.ev.length<=1048576):aq 139 [.ref 0 0,ii k,ii id,ii n] [rdO r (.slice 14 (rav l) .no) 0,evT 0] (.ret (.tup [])) [rdO (lM r ⟨k,id,n⟩) (.slice 14 (rav l) .no) 1,evT 1]:=by
 have a:(evv r.ev).length=r.ev.length:=by simp
 have e:evv (r.ev++[⟨k,id,n⟩])=evv r.ev++[Ev.av ⟨k,id,n⟩]:=by simp
 unfold lM;show aA _ _ _ _ _ [.cells _ [_,_,_,_,_,_,_,_,_,.slice 3 (evv (r.ev++[⟨k,id,n⟩])) (.own 1 1),_,_],_];rw [e];refine cT (E:=E) (fn:=Tryz.f139) (g:=.full 2 _ _) λ_=>?_;exact zW
def wT{n a:Nat}(h:n<=1048576)(b:a<=1000):AO (n+1) a:=Ab (by simp only [maxLen];omega) (Cx (Gc (show n+1<=1048577 by omega) b) d_)
def aN7(r:Rd)(p:Pn)(a:aq 117 [r.s.c.av,.slice 14 (rav r.s.run) .no,p.g.av] [] (.ret (fdA none)) []):
  aq 135 [.ref 0 0,p.av] (rdS r 0 0) (.ret (.bool false)) (rdS r 0 0):=by
 obtain ⟨s,ev,head,start⟩:=r;exact zqya5
def aN9(s:Sta)(ev:bg)(start:Int)(p:Pn)(x:Int×aw)(a:aq 117 [s.c.av,.slice 14 (rav s.run) .no,p.g.av] [] (.ret (fdA (some x))) [])
  (hm:aq 177 [ii s.now,p.g.av,ii start] [] (.ret (.bool false)) []):
  aq 135 [.ref 0 0,p.av] (rdS ⟨s,ev,true,start⟩ 0 0) (.ret (.bool false)) (rdS ⟨s,ev,true,start⟩ 0 0):=by
 exact zqya5
set_option maxHeartbeats 1000000 in
def aN6(s:Sta)(ev:bg)(start:Int)(p:Pn)(x:Int×aw)(i:aq 117 [s.c.av,.slice 14 (rav s.run) .no,p.g.av] [] (.ret (fdA (some x))) [])(h:ev.length<=1000000)(hp:s.pend.length<=1000000)(d:(rav s.run).length<=1048576)
  (hm:aq 177 [ii s.now,p.g.av,ii start] [] (.ret (.bool true)) []):
  aq 135 [.ref 0 0,p.av] (rdS ⟨s,ev,true,start⟩ 0 0) (.ret (.bool true)) (rdS (PL ⟨s,ev,true,start⟩ p x.1 x.2) 1 1):=by
 have e:PL ⟨s,ev,true,start⟩ p x.1 x.2=lM ⟨{s with pend:=dN s.pend p.g.id,run:=s.run++[⟨p.g,p.seq,p.at',s.now,x.1,x.2⟩]},ev,true,start⟩ ⟨1,p.g.id,x.1⟩:=rfl;have a:=JB ⟨{s with pend:=dN s.pend p.g.id,run:=s.run++[⟨p.g,p.seq,p.at',s.now,x.1,x.2⟩]},ev,true,start⟩ 1 p.g.id x.1 (by show ev.length<=_;omega);have j:=rI s.pend p.g.id hp;rw [e];generalize lM ⟨{s with pend:=dN s.pend p.g.id,run:=s.run++[⟨p.g,p.seq,p.at',s.now,x.1,x.2⟩]},ev,true,start⟩ ⟨1,p.g.id,x.1⟩=r2 at *
 exact zqya2
set_option maxHeartbeats 1000000 in
def aN8(s:Sta)(ev:bg)(start:Int)(p:Pn)(x:Int×aw)(h:aq 117 [s.c.av,.slice 14 (rav s.run) .no,p.g.av] [] (.ret (fdA (some x))) [])(i:ev.length<=1000000)(hp:s.pend.length<=1000000)(d:(rav s.run).length<=1048576):
  aq 135 [.ref 0 0,p.av] (rdS ⟨s,ev,false,start⟩ 0 0) (.ret (.bool true)) (rdS (PL ⟨s,ev,false,start⟩ p x.1 x.2) 1 1):=by
 have hm:=h;have e:PL ⟨s,ev,false,start⟩ p x.1 x.2=lM ⟨{s with pend:=dN s.pend p.g.id,run:=s.run++[⟨p.g,p.seq,p.at',s.now,x.1,x.2⟩]},ev,false,start⟩ ⟨1,p.g.id,x.1⟩:=rfl;have a:=JB ⟨{s with pend:=dN s.pend p.g.id,run:=s.run++[⟨p.g,p.seq,p.at',s.now,x.1,x.2⟩]},ev,false,start⟩ 1 p.g.id x.1 (by show ev.length<=_;omega);have j:=rI s.pend p.g.id hp;rw [e];generalize lM ⟨{s with pend:=dN s.pend p.g.id,run:=s.run++[⟨p.g,p.seq,p.at',s.now,x.1,x.2⟩]},ev,false,start⟩ ⟨1,p.g.id,x.1⟩=r2 at *
 exact zqya2
def PK(r:Rd)(p:Pn)(j:r.s.c.sm)(hs:Sm r.s.run)(hp:r.s.pend.length<=1000000)(i:r.ev.length<=1000000)(k:0<=p.g.pods/\p.g.pods<=16):
  (admR r p=(r,false)/\aq 135 [.ref 0 0,p.av] (rdS r 0 0) (.ret (.bool false)) (rdS r 0 0))\/
  ((admR r p).2=true/\aq 135 [.ref 0 0,p.av] (rdS r 0 0) (.ret (.bool true)) (rdS (admR r p).1 1 1)):=by
 have b:(rav r.s.run).length<=1048576:=by simpa using hs.1
 have a:=wU r.s.c j r.s.run hs p.g k;have hm:=aIE r.s.now p.g r.start;unfold admR;cases h:cG r.s.c r.s.run p.g with
 | none=>
  rw [h] at a;exact .inl ⟨rfl,aN7 r p a⟩
 | some x=>
  rw [h] at a;obtain ⟨s,ev,head,start⟩:=r;cases head with
  | false=>exact .inr ⟨rfl,aN8 s ev start p x a i hp b⟩
  | true=>
   cases d:bmB s.now p.g start with
   | false=>
    have e:FE ⟨s,ev,true,start⟩ p (some x)=(⟨s,ev,true,start⟩,false):=by unfold FE;exact if_pos (by rw [d];rfl)
    rw [e];dsimp only at hm;rw [d] at hm;exact .inl ⟨rfl,aN9 s ev start p x a hm⟩
   | true=>
    have e:FE ⟨s,ev,true,start⟩ p (some x)=(PL ⟨s,ev,true,start⟩ p x.1 x.2,true):=by unfold FE;exact if_neg (by rw [d];simp)
    rw [e];dsimp only at hm;rw [d] at hm;exact .inr ⟨rfl,aN6 s ev start p x a i hp b hm⟩
def bU(id:Int)(x:Rn):Bool:=x.g.id==id
abbrev idF(n:Nat)(id:Int):aa:=.func (.func n) [] [.ptr [ii id]]
def RB(n:Nat)(id:Int)(d:∀ x:Rn,aA Tryz.prog n [x.av,.ptr [ii id]] [] (.ret (.bool (bU id x))) [])(l:a6)(hl:l.length<=1048576)(r:Int):∀ (m i:Nat),i+m=l.length->aQ (bU id) (l.drop i) i=r->
  To E HD (.pure (.ret (ii r))) (.head (stk HD 0) [(0,.slice 14 (rav l) .no),(1,idF n id),(7,.int .i64 ((rav l).length:Nat)),(8,ii i)] []):=by
 have g:(rav l).length=l.length:=by simp
 intro m;induction m with
 | zero=>
  exact zqya11
 | succ m e=>
  intro i h a;have b:i<l.length:=o_;rw [Ag b] at a;have get:(rav l)[i]? =some l[i].av:=eX b;generalize l[i]=x at a get;unfold aQ at a;have f:=d x;have e:=e (i+1) o_;cases c:bU id x with
  | true=>
   exact zqya13
  | false=>
   exact zqya8
def DL(n:Nat)(id:Int)(a:∀ x:Rn,aA Tryz.prog n [x.av,.ptr [ii id]] [] (.ret (.bool (bU id x))) [])(l:a6)(hl:l.length<=1048576):aq 115 [.slice 14 (rav l) .no,idF n id] [] (.ret (ii (aQ (bU id) l 0))) []:=by refine c_ Tryz.f115 λ_=>gV ?_;exact To.cut [0,1,7,8] 0 rfl rfl rfl rfl (RB n id a l hl _ l.length 0 o_ rfl)
def V6(id:Int)(x:Rn):aq 185 [x.av,.ptr [ii id]] [] (.ret (.bool (bU id x))) []:=by unfold bU;exact c_ Tryz.f185 λ_=>zW
def FZ(id:Int)(x:Rn):aq 116 [x.av,.ptr [ii id]] [] (.ret (.bool (bU id x))) []:=by unfold bU;exact c_ Tryz.f116 λ_=>zW
def oJ(p:Rn->Bool):∀ (l:a6) (i:Nat),aQ p l i= -1\/((i:Int)<=aQ p l i/\aQ p l i<(i:Int)+l.length)
 | [],i=>.inl rfl
 | x::l,i=>by
  unfold aQ;by_cases h:p x=true
  .rw [if_pos h];right;simp;omega
  .rw [if_neg h];rcases oJ p l (i+1) with a | a
   .exact .inl a
   .right;simp;omega
noncomputable abbrev fEv:Func:=Tryz.f137
abbrev evF(ids:aw)(i:Nat):ar:=[(0,.ref 0 0),(1,.slice 1 (iv ids) .no),(8,.slice 1 (iv ids) .no),(9,.int .i64 ((iv ids).length:Nat)),(10,ii i)]
abbrev evD(Q:Rd)(run:a6)(ids:aw):Rd:=⟨{Q.s with run:=aE run ids},Q.ev,Q.head,Q.start⟩
abbrev evG(Q:Rd)(run:a6)(ids:aw)(g:Nat):Goal:=.full 2 (.ret (.tup [])) [rdO (evD Q run ids) (ruV (aE run ids) 2 0) g,evT g,ruT 0]
abbrev evB(q:Rd)(run:a6)(g:Nat):au:=[rdO q (.slice 14 (rav run) .no) g,evT g]
def CD(l:a7)(p:Pn):(jV l p).length=l.length+1:=by unfold jV;rw [Ah,Ah,Mo];have:=congrArg Lh (Bp (Q2.putAt p.q (l.map Pn.q)) l);rw [Ah] at this;omega
set_option maxHeartbeats 1000000 in
def aHN(run:a6)(hs:Sm run)(ids:aw)(hd:ids.length<=1048576)(k:∀ id∈ids,0<=aQ (bU id) run 0)(Q:Rd):∀ (m i:Nat) (q:Rd),i+m=ids.length->(ids.drop i).foldl (dT run) q=Q->q.s.pend.length+m<=1000000->q.ev.length+m<=1000000->
  To E fEv (evG Q run ids 1) (.head (stk fEv 0) (evF ids i) (evB q run 1)):=by
 intro m;induction m with
 | zero=>
  intro i q p b hp z;rw [Ai o_] at b;have b:q=Q:=b;subst b;have B:=aAg run hs ids hd;have l:(iv ids).length=ids.length:=by simp
  have r:evG q run ids 1= .full 2 (.ret (.tup [])) [rdO q (ruV (aE run ids) 2 0) 1,evT 1,ruT 0]:=rfl;rw [r];generalize aE run ids=rn at *
  refine gV ?_;exact zW
 | succ m v=>
  intro i q p b hp z;have c:i<ids.length:=o_;rw [Ag c,Ba] at b;have o:=k _ (Bd c);have get:(iv ids)[i]? =some (ii ids[i]):=by simp [c]
  generalize ids[i]=id at b o get;have h1:=DL _ id (V6 id) run hs.1
  obtain ⟨at',d⟩:∃ a:Nat,aQ (bU id) run 0=(a:Int):=⟨(aQ (bU id) run 0).toNat,by omega⟩
  have f:at'<run.length:=by
   rcases oJ (bU id) run 0 with h | h
   .omega
   .rw [d] at h;omega
  have A:=iK f;have j:dT run q id=lM ⟨{q.s with pend:=jV q.s.pend (aR run at').pn},q.ev,q.head,q.start⟩ ⟨2,id,0⟩:=by
   have e:(aQ (λ x=>x.g.id==id) run 0).toNat=at':=by have y:aQ (bU id) run 0=at':=d;have w:aQ (λ x=>x.g.id==id) run 0=aQ (bU id) run 0:=rfl;rw [w,y];rfl
   unfold dT;rw [e];rfl
  rw [j] at b;rw [d] at h1;have t:=IZ q.s.pend (aR run at').pn o_;have h3:=MU ⟨{q.s with pend:=jV q.s.pend (aR run at').pn},q.ev,q.head,q.start⟩ run 2 id 0 (by show q.ev.length<=_;omega);have next:=v (i+1) (lM ⟨{q.s with pend:=jV q.s.pend (aR run at').pn},q.ev,q.head,q.start⟩ ⟨2,id,0⟩) o_ b (by show (jV _ _).length+m<=_;rw [CD];omega) (by show (q.ev++[_]).length+m<=_;simp;omega)
  generalize lM ⟨{q.s with pend:=jV q.s.pend (aR run at').pn},q.ev,q.head,q.start⟩ ⟨2,id,0⟩=q2 at *
  generalize jV q.s.pend (aR run at').pn=pq at *
  have n:(aR run at').pn=⟨(aR run at').g,(aR run at').seq,(aR run at').at'⟩:=rfl;rw [n] at t;generalize aR run at'=x at *
  have l:(iv ids).length=ids.length:=by simp
  have u:(rav run).length=run.length:=by simp
  clear j b k;refine gV ?_;exact zW
set_option maxHeartbeats 1000000 in
def aDy(r:Rd)(run:a6)(c:r.s.run=run)(hs:Sm run)(ids:aw)(hd:ids.length<=1048576)(v:ids≠[])(n:∀ id∈ids,0<=aQ (bU id) run 0)(hp:r.s.pend.length+ids.length<=1000000)(L:r.ev.length+ids.length<=1000000):
  aq 137 [.ref 0 0,.slice 1 (iv ids) .no] (evB r run 0) (.ret (.tup [])) [rdO (mW r ids) (ruV (mW r ids).s.run 2 0) 1,evT 1,ruT 0]:=by
 have z:mW r ids=evD (ids.foldl (dT run) r) run ids:=by rw [<-c];rfl
 rw [z]
 obtain ⟨Q,d⟩:∃ Q,(ids.drop 0).foldl (dT run) r=Q:=⟨_,rfl⟩
 have u:ids.foldl (dT run) r=Q:=d;rw [u];have ev:=aHN run hs ids hd n Q;have t:0<ids.length:=Dw.2 v
 obtain ⟨m,hm⟩:∃ m,ids.length=m+1:=⟨ids.length-1,by omega⟩
 have J:(0:Nat)=0:=rfl;have key:To E fEv (evG Q run ids 1) (.head (stk fEv 0) (evF ids 0) (evB r run 0)):=by
  have hp:r.s.pend.length+(m+1)<=1000000:=o_;have L:r.ev.length+(m+1)<=1000000:=o_;have B:0+(m+1)=ids.length:=o_;clear u z c
  obtain ⟨i,k⟩:∃ i:Nat,i=0:=⟨_,rfl⟩
  have b:∀ q,q=r->To E fEv (evG Q run ids 1) (.head (stk fEv 0) (evF ids i) (evB q run 0)):=by
   intro q G;subst G;rw [<-k] at d B;have F:=λ q=>ev m (i+1) q o_;clear J ev k t;have j:i<ids.length:=o_;rw [Ag j,Ba] at d;have y:=n _ (Bd j);have get:(iv ids)[i]? =some (ii ids[i]):=by simp [j]
   generalize ids[i]=id at d y get;have h1:=DL _ id (V6 id) run hs.1
   obtain ⟨at',l⟩:∃ a:Nat,aQ (bU id) run 0=(a:Int):=⟨(aQ (bU id) run 0).toNat,by omega⟩
   have o:at'<run.length:=by
    rcases oJ (bU id) run 0 with h | h
    .omega
    .rw [l] at h;omega
   have M:=iK o;have p:dT run q id=lM ⟨{q.s with pend:=jV q.s.pend (aR run at').pn},q.ev,q.head,q.start⟩ ⟨2,id,0⟩:=by
    have e:(aQ (λ x=>x.g.id==id) run 0).toNat=at':=by have I:aQ (bU id) run 0=at':=l;have H:aQ (λ x=>x.g.id==id) run 0=aQ (bU id) run 0:=rfl;rw [H,I];rfl
    unfold dT;rw [e];rfl
   rw [p] at d;rw [l] at h1;have C:=IZ q.s.pend (aR run at').pn o_;have h3:=MU ⟨{q.s with pend:=jV q.s.pend (aR run at').pn},q.ev,q.head,q.start⟩ run 2 id 0 (by show q.ev.length<=_;omega);have next:=F (lM ⟨{q.s with pend:=jV q.s.pend (aR run at').pn},q.ev,q.head,q.start⟩ ⟨2,id,0⟩)  d (by show (jV _ _).length+m<=_;rw [CD];omega) (by show (q.ev++[_]).length+m<=_;simp;omega)
   generalize lM ⟨{q.s with pend:=jV q.s.pend (aR run at').pn},q.ev,q.head,q.start⟩ ⟨2,id,0⟩=q2 at *
   generalize jV q.s.pend (aR run at').pn=pq at *
   have w:(aR run at').pn=⟨(aR run at').g,(aR run at').seq,(aR run at').at'⟩:=rfl;rw [w] at C;generalize aR run at'=x at *
   have K:(iv ids).length=ids.length:=by simp
   have D:(rav run).length=run.length:=by simp
   clear p d n;refine gV ?_;exact zW
  rw [k] at b;exact b r rfl
 refine cT (E:=E) (fn:=Tryz.f137) (g:=.full 2 _ _) λ_=>?_;exact zW
abbrev Z8(r:Rd)(p:Pn)(b:Bool)(O:au):Prop:=aq 135 [.ref 0 0,p.av] (rdS r 0 0) (.ret (.bool b)) O
abbrev lO(r:Rd)(p:Pn)(O:au):Prop:=aq 91 [.ref 0 0,p.av] (rdS r 0 0) (.ret (.tup [])) O
abbrev aLF(r:Rd)(p:Pn)(Q:Option aw):Prop:=aq 136 [r.s.c.av,.slice 14 (rav r.s.run) .no,p.g.av] [] (.ret (chR Q)) []
abbrev aMe(r:Rd)(p:Pn)(Q:Option Int):Prop:=aq 138 [r.s.c.av,ii r.s.now,.slice 14 (rav r.s.run) .no,p.g.av] [] (.ret (stA Q)) []
def aCy(r R:Rd)(p:Pn)(h1:Z8 r p true (rdS R 1 1)):lO r p (rdS R 1 1):=by exact zqya3
def aML(s:Sta)(ev:bg)(st:Int)(p:Pn)(h1:Z8 ⟨s,ev,true,st⟩ p false (rdS ⟨s,ev,true,st⟩ 0 0)):lO ⟨s,ev,true,st⟩ p (rdS ⟨s,ev,true,st⟩ 0 0):=by exact zqya3
set_option maxHeartbeats 1000000 in
def aMK(s:Sta)(ev:bg)(p:Pn)(h1:Z8 ⟨s,ev,false,0⟩ p false (rdS ⟨s,ev,false,0⟩ 0 0))(a:aLF ⟨s,ev,false,0⟩ p none)(h3:aMe ⟨s,ev,false,0⟩ p none):lO ⟨s,ev,false,0⟩ p (rdS ⟨s,ev,false,0⟩ 0 0):=by exact zqya3
set_option maxHeartbeats 1000000 in
def aMJ(s:Sta)(ev:bg)(st:Int)(p:Pn)(n:Int)(c:ev.length<=1000000)(h1:Z8 ⟨s,ev,false,st⟩ p false (rdS ⟨s,ev,false,st⟩ 0 0))(b:aLF ⟨s,ev,false,st⟩ p none)(h3:aMe ⟨s,ev,false,st⟩ p (some n)):lO ⟨s,ev,false,st⟩ p (rdS ⟨s,ev++[⟨4,p.g.id,n⟩],true,n⟩ 1 0):=by
 have a:=JB ⟨s,ev,true,n⟩ 4 p.g.id n (by show ev.length<=_;omega);unfold lM at a;dsimp only at a;generalize ev++[⟨4,p.g.id,n⟩]=ev2 at *
 refine cT (E:=(Er [] [39,40,59,60,61,62,63,64])) (fn:=Tryz.f91) (g:=.full 3 _ _) λ_=>?_
 repeat' first | (refine gN (hEr [] [39,40,59,60,61,62,63,64]) ?_;conv=>whnf) | refine .eff [] [0,1,2] _ _ rfl h1 ?_ | refine .pure _ [] b ?_ | refine .pure _ [] h3 ?_ | refine .sole rfl (.eff [] [0,1,2] _ _ rfl a ?_) | exact rfl | refine zt ?_ | refine zu ?_ ?_ | intro h | fail
 refine ⟨[],[0,1,2],⟨rfl,rfl⟩,rfl,rfl⟩
abbrev aNX(r:Rd)(ids:aw)(R:Rd):Prop:=aq 137 [.ref 0 0,.slice 1 (iv ids) .no] (evB r r.s.run 0) (.ret (.tup [])) [rdO R (ruV R.s.run 2 0) 1,evT 1,ruT 0]
set_option maxHeartbeats 2000000 in
def C2(s:Sta)(ev:bg)(st:Int)(p:Pn)(ids:aw)(R:Rd)(h1:Z8 ⟨s,ev,false,st⟩ p false (rdS ⟨s,ev,false,st⟩ 0 0))(i:aLF ⟨s,ev,false,st⟩ p (some ids))(h3:aNX ⟨s,ev,false,st⟩ ids R)
  (d:Rd) (b:Bool) (c a:Nat) (j:Z8 R p b (rdS d c a)) (e:c=0/\a=0\/c=1/\a=1):lO ⟨s,ev,false,st⟩ p [rdO d (ruV d.s.run 3 0) 1,evT 1,ruT 0,ruT 0]:=by
 rcases e with ⟨rfl,rfl⟩ | ⟨rfl,rfl⟩
 all_goals
  refine cT (E:=(Er [] [39,40,59,60,61,62,63,64])) (fn:=Tryz.f91) (g:=.full 3 _ _) λ_=>?_
  repeat' first | (refine gN (hEr [] [39,40,59,60,61,62,63,64]) ?_;conv=>whnf) | refine .eff [] [0,1,2] _ _ rfl h1 ?_ | refine .pure _ [] i ?_ | refine .eff [] [0,1] _ _ rfl h3 ?_ | refine .eff [] [0,1,4] _ _ rfl j ?_ | exact rfl | refine zt ?_ | refine zu ?_ ?_ | intro h | fail
  refine ⟨[],[0,1,2,4],⟨rfl,rfl⟩,rfl,rfl⟩
def BK(r:Rd)(p:Pn):Prop:=
 (cO r p=r/\lO r p (rdS r 0 0))\/lO r p (rdS (cO r p) 1 1)\/lO r p (rdS (cO r p) 1 0)\/lO r p [rdO (cO r p) (ruV (cO r p).s.run 3 0) 1,evT 1,ruT 0,ruT 0]
noncomputable abbrev aM8:Func:=Tryz.f52
abbrev FH:ab:=.cells 31 [.slice 11 [] .nil,.slice 6 [] .nil,ii 0,ii 0,ii 0,ii 0,.slice 11 [] .nil,.slice 14 [] .nil,.slice 1 [] .nil]
abbrev aNN(L:a7)(i:Nat):ar:=[(2,.ref 3 0),(4,.ref 0 0),(12,.slice 11 (pnv L) .no),(13,.int .i64 ((pnv L).length:Nat)),(14,ii i)]
abbrev aNM(r:Rd):au:=[rdO r (ruV r.s.run 2 0) 0,evT 0,ruT 0,FH]
set_option maxHeartbeats 1000000 in
def aBe(b:Rd->a7->Prop)(k:∀ r p rest,b r (p::rest)->BK r p/\b (cO r p) rest)(L:a7)(n:L.length<=1000000)(R:Rd):∀ (m i:Nat) (r:Rd),i+m=L.length->(L.drop i).foldl cO r=R->b r (L.drop i)->
  To E aM8 (.pure (.ret (.tup [R.s.av,.slice 3 (evv R.ev) .no]))) (.head (stk aM8 0) (aNN L i) (aNM r)):=by
 have g:(pnv L).length=L.length:=by simp
 intro m;induction m with
 | zero=>
  intro i r j a _;rw [Ai o_] at a;have a:r=R:=a;subst a;refine gV ?_;refine aF λ h=>?_;refine cJ hE 2 ?_;conv=>whnf
  refine To.permC hE [0,1,2,3,4,5,6,7,9] [8] (by rfl) ?_;conv=>whnf
  refine aLC ?_;refine aLC ?_;exact zW
 | succ m l=>
  intro i r j a d;have c:i<L.length:=o_;rw [Ag c] at a d;rw [Ba] at a;obtain ⟨h1,f⟩:=k _ _ _ d;have get:=I3 c;generalize L[i]=p at a d h1 f get;have next:=l (i+1) (cO r p) o_ a f
  rcases h1 with ⟨e,hl⟩ | hl | hl | hl
  .rw [e] at next
   refine gV ?_;exact zW
  .generalize cO r p=r2 at *
   refine gV ?_;exact zW
  .generalize cO r p=r2 at *
   refine gV ?_;exact zW
  .generalize cO r p=r2 at *
   refine gV ?_;refine aT λ h=>?_
   repeat' first | (refine gN hE ?_;conv=>whnf) | refine ⟨i,rfl,?_⟩ | refine ⟨_,get,?_⟩ | refine .eff [] [0,1,2] _ _ rfl hl ?_ | exact rfl | refine zt ?_ | refine zu ?_ ?_ | intro h | fail
   refine To.part [2,4,12,13,14] [0,1,5,3] rfl rfl rfl ?_;exact next
def aIn(a:Rd->a7->Prop)(b:∀ r p rest,a r (p::rest)->BK r p/\a (cO r p) rest)(s:Sta)(h:StaSm' s)(L:a7)(e:L.length<=1000000)(hs:aq 90 [s.av] [] (.ret (.slice 11 (pnv L) .no)) [])(c:a ⟨s,[],false,0⟩ L):
  aq 52 [s.av] [] (.ret (.tup [(L.foldl cO ⟨s,[],false,0⟩).s.av,.slice 3 (evv (L.foldl cO ⟨s,[],false,0⟩).ev) .no])) []:=by
 have h1:=aBe a b L e _ L.length 0 ⟨s,[],false,0⟩ o_ rfl c;have d:=aIq s h;rw [Cg] at h1;generalize L.foldl cO ⟨s,[],false,0⟩=R at *
 refine c_ Tryz.f52 λ_=>?_
 repeat' first | (refine gN hE ?_;conv=>whnf) | refine .pure _ _ d ?_ | refine .pure _ [] hs ?_ | exact rfl | refine zt ?_ | refine zu ?_ ?_ | intro h | fail
 refine To.begin 3 9 75 rfl rfl ?_;refine To.part [2,4,12,13,14] [3,4,2,1] rfl rfl rfl ?_;exact h1
def BD(run:a6):∀ (ids:aw) (r:Rd),(ids.foldl (dT run) r).s.c=r.s.c/\(ids.foldl (dT run) r).s.now=r.s.now/\(ids.foldl (dT run) r).s.nxt=r.s.nxt/\(ids.foldl (dT run) r).s.hist=r.s.hist/\(ids.foldl (dT run) r).s.run=r.s.run/\(ids.foldl (dT run) r).head=r.head/\(ids.foldl (dT run) r).start=r.start/\(ids.foldl (dT run) r).s.pend.length=r.s.pend.length+ids.length/\(ids.foldl (dT run) r).ev.length=r.ev.length+ids.length
 | [],r=>⟨rfl,rfl,rfl,rfl,rfl,rfl,rfl,rfl,rfl⟩
 | id::ids,r=>by
  obtain ⟨a,b,c,d,e,f,g,h,i⟩:=BD run ids (dT run r id);have h1:(dT run r id).s.pend.length=r.s.pend.length+1:=CD _ _;have j:(dT run r id).ev.length=r.ev.length+1:=by show (r.ev++[_]).length=_;simp
  rw [Ba];refine ⟨a,b,c,d,e,f,g,?_,?_⟩
  .rw [h,h1,Al];omega
  .rw [i,j,Al];omega
structure LookPre(r:Rd)(p:Pn):Prop where
 c:r.s.c.sm
 run:Sm r.s.run
 pend:r.s.pend.length<=900000
 ev:r.ev.length<=900000
 pods:0<=p.g.pods/\p.g.pods<=16
 start:r.head=false->r.start=0
 cho:cG r.s.c r.s.run p.g=none->∀ ids,gI r.s.c r.s.run p.g=some ids->ids≠[]/\ids.length<=100000/\∀ id∈ids,0<=aQ (bU id) r.s.run 0
def aCx(r:Rd)(p:Pn)(h:LookPre r p):BK r p:=by
 have hd:=h.pend;have f:=h.ev;rcases PK r p h.c h.run o_ o_ h.pods with ⟨e,i⟩ | ⟨e,i⟩
 .have l:(admR r p).2=false:=by rw [e]
  obtain ⟨s,ev,head,start⟩:=r;cases head with
  | true=>
   have a:cO ⟨s,ev,true,start⟩ p=⟨s,ev,true,start⟩:=by unfold cO;rw [if_neg (by rw [l];decide),if_pos rfl]
   exact .inl ⟨a,aML s ev start p i⟩
  | false=>
   have a:cO ⟨s,ev,false,start⟩ p=aI3 ⟨s,ev,false,start⟩ p (gI s.c s.run p.g):=by unfold cO;rw [if_neg (by rw [l];decide),if_neg (show ¬ false=true by decide)]
   have b:=ZV s.c h.c s.run h.run p.g h.pods;have d:=h.cho;dsimp only at d;cases k:gI s.c s.run p.g with
   | none=>
    rw [k] at b a;have hst:=aAS s.c h.c s.now s.run h.run p.g h.pods;have a:cO ⟨s,ev,false,start⟩ p=pE ⟨s,ev,false,start⟩ p (tW s.c s.now s.run p.g):=a;cases hs:tW s.c s.now s.run p.g with
    | none=>
     rw [hs] at hst a;have z:start=0:=h.start rfl;subst z;exact .inl ⟨a,aMK s ev p i b hst⟩
    | some n=>
     rw [hs] at hst a;have a:cO ⟨s,ev,false,start⟩ p=⟨s,ev++[⟨4,p.g.id,n⟩],true,n⟩:=a;refine .inr (.inr (.inl ?_));rw [a];exact aMJ s ev start p n (by dsimp only at f;omega) i b hst
   | some ids=>
    rw [k] at b a;have q:cG s.c s.run p.g=none:=by
     have u:(FE ⟨s,ev,false,start⟩ p (cG s.c s.run p.g)).2=false:=l;cases C:cG s.c s.run p.g with
     | none=>rfl
     | some x=>rw [C] at u;have w:true=false:=u;cases w
    obtain ⟨F,I,y⟩:=d q ids k;have a:cO ⟨s,ev,false,start⟩ p=(admR (mW ⟨s,ev,false,start⟩ ids) p).1:=a;have t:=aDy ⟨s,ev,false,start⟩ s.run rfl h.run ids o_ F y (by dsimp only at hd⊢;omega) (by dsimp only at f⊢;omega);obtain ⟨B,_,_,_,J,_,_,G,D⟩:=BD s.run ids ⟨s,ev,false,start⟩;have o:(mW ⟨s,ev,false,start⟩ ids).s.c=s.c:=B;have j:(mW ⟨s,ev,false,start⟩ ids).s.run=aE s.run ids:=rfl;have A:(mW ⟨s,ev,false,start⟩ ids).s.pend.length=s.pend.length+ids.length:=G;have H:(mW ⟨s,ev,false,start⟩ ids).ev.length=ev.length+ids.length:=D;refine .inr (.inr (.inr ?_));rw [a];generalize mW ⟨s,ev,false,start⟩ ids=R at *
    dsimp only at hd f;rcases PK R p (by rw [o];exact h.c) (by rw [j];exact oV h.run ids) o_ o_ h.pods with ⟨v,m⟩ | ⟨v,m⟩
    .rw [v];exact C2 s ev start p ids R i b t R false 0 0 m (.inl ⟨rfl,rfl⟩)
    .exact C2 s ev start p ids R i b t (admR R p).1 true 1 1 m (.inr ⟨rfl,rfl⟩)
 .have a:cO r p=(admR r p).1:=by unfold cO;rw [if_pos e]
  refine .inr (.inl ?_);rw [a];exact aCy r (admR r p).1 p i
def xQ(l:a7)(p:Pn):(jV l p).Perm (p::l):=by
 unfold jV;have h:=Bp (Q2.putAt p.q (l.map Pn.q)) l;generalize Hr (Q2.putAt p.q (l.map Pn.q)) l=A at *
 generalize Hc (Q2.putAt p.q (l.map Pn.q)) l=B at *
 rw [<-h,Ae];exact Eh
def DK(a:Int):∀ (l:a7) (i:Nat),((∀ p∈l,p.g.id≠a)/\Q2.idx (λ x=>x.id==a) (l.map Pn.q) i= -1)\/∃ A p B,l=A++p::B/\p.g.id=a/\Q2.idx (λ x=>x.id==a) (l.map Pn.q) i=((i+A.length:Nat):Int)
 | [],i=>.inl ⟨λ p hp=>(by cases hp),rfl⟩
 | p::l,i=>by
  rw [Bl];unfold Q2.idx;by_cases h:p.g.id=a
  .right;refine ⟨[],p,l,rfl,h,?_⟩;have e:(p.q.id==a)=true:=by show (p.g.id==a)=true;rw [h];simp
   simp [e]
  .have e:(p.q.id==a)=false:=by show (p.g.id==a)=false;simpa using h
   simp only [e];rcases DK a l (i+1) with ⟨h1,c⟩ | ⟨A,x,B,h1,c,h3⟩
   .left;refine ⟨λ q b=>?_,c⟩;rcases Bc.1 b with rfl | b
    .exact h
    .exact h1 q b
   .right;refine ⟨p::A,x,B,by rw [h1];rfl,c,?_⟩;refine h3.trans ?_;rw [Al];congr 1;omega
def BC(a:Int)(l:a7):((∀ p∈l,p.g.id≠a)/\iW a l= -1)\/∃ A p B,l=A++p::B/\p.g.id=a/\iW a l=(A.length:Int):=by have h:=DK a l 0;simp only [Bw] at h;exact h
def BZ{l:a7}{p:Pn}(hp:p∈l)(d:(l.map λ x=>x.g.id).Nodup):(p::dN l p.g.id).Perm l/\∀ q∈l,q≠p->q∈dN l p.g.id:=by
 rcases BC p.g.id l with ⟨h,_⟩ | ⟨A,x,B,h1,i,h3⟩
 .exact absurd rfl (h p hp)
 .have j:x=p:=by
   subst h1;rw [Bk,Bl,Cs] at d;obtain ⟨_,f,c⟩:=d;rw [Bx] at f;rcases Az.1 hp with hp | hp
   .exact absurd i.symm (c _ (Cc hp) _ (Ar ..))
   .rcases Bc.1 hp with hp | hp
    .exact hp.symm
    .exact absurd (i▸Cc hp) f.1
  subst j;have e:dN l x.g.id=A++B:=by unfold dN;rw [if_neg o_,h3,h1];show (A++x::B).eraseIdx A.length=_;rw [Ja (Bf _),Md];rfl
  rw [e];refine ⟨by rw [h1];exact Eh.symm,λ q a b=>?_⟩;rw [h1] at a;rcases Az.1 a with a | a
  .exact De _ a
  .rcases Bc.1 a with a | a
   .exact absurd a b
   .exact Cv _ a
def DT{id:Int}(l:a6):∀ (i:Nat) (x:Rn),x∈l->x.g.id=id->0<=aQ (bU id) l i:=by
 induction l with
 | nil=>intro i x a;cases a
 | cons y l c=>
  intro i x a h;unfold aQ;by_cases b:bU id y=true
  .rw [if_pos b];omega
  .rw [if_neg b];rcases Bc.1 a with e | a
   .exact absurd (by unfold bU;rw [<-e];simpa using h) b
   .exact c (i+1) x a h
def Y1{id:Int}(l:a6):∀ (i:Nat),0<=aQ (bU id) l i->aR l (aQ (bU id) l i-i).toNat∈l/\(aR l (aQ (bU id) l i-i).toNat).g.id=id:=by
 induction l with
 | nil=>intro i h;have h:(0:Int)<= -1:=h;omega
 | cons y l c=>
  intro i h;unfold aQ at h⊢;by_cases a:bU id y=true
  .rw [if_pos a];have e:((i:Int)-i).toNat=0:=o_;rw [e];unfold bU at a;exact ⟨Ar ..,(by simpa using a:y.g.id=id)⟩
  .rw [if_neg a] at h⊢;obtain ⟨h1,b⟩:=c (i+1) h;rcases oJ (bU id) l (i+1) with h3 | h3
   .omega
   .have e:(aQ (bU id) l (i+1)-i).toNat=(aQ (bU id) l (i+1)-((i+1:Nat):Int)).toNat+1:=o_;rw [e];exact ⟨Bb _ h1,b⟩
def xOf(run:a6)(id:Int):Rn:=aR run (aQ (bU id) run 0).toNat
def lC{run:a6}{id:Int}(h:0<=aQ (bU id) run 0):xOf run id∈run/\(xOf run id).g.id=id:=by have a:=Y1 run 0 h;have e:(aQ (bU id) run 0-((0:Nat):Int)).toNat=(aQ (bU id) run 0).toNat:=o_;rw [e] at a;exact a
def G6(run:a6):∀ (ids:aw) (r:Rd),(ids.foldl (dT run) r).s.pend.Perm (ids.map (λ id=>(xOf run id).pn)++r.s.pend)
 | [],r=>Jf _
 | id::ids,r=>by rw [Ba,Bl];refine (G6 run ids (dT run r id)).trans ?_;have h:(dT run r id).s.pend=jV r.s.pend (xOf run id).pn:=rfl;rw [h];refine (Du _ (xQ _ _)).trans ?_;exact Eh
def aB3{l:a6}(h:H3 l):(l.map λ x=>x.g.id).Nodup:=by unfold Ld;rw [Fs];exact Je (λ h=>h.1) h
def ML{run:a6}(k:H3 run){ids:aw}(l:ids.Nodup)(c:∀ id∈ids,0<=aQ (bU id) run 0):(ids.map (xOf run)++aE run ids).Perm run:=by
 have d:run.Nodup:=Je (λ h e=>h.1 (by rw [e])) k;have h1:(ids.map (xOf run)).Nodup:=by unfold Ld;rw [Fs];refine List.Pairwise.imp_of_mem (λ{a b} i j hab e=>hab ?_) l;rw [<-(lC (c a i)).2,<-(lC (c b j)).2,e]
 have m:(aE run ids).Nodup:=d.sublist Kw;refine (List.perm_ext_iff_of_nodup ?_ d).2 λ x=>?_
 .refine Cs.2 ⟨h1,m,λ a i b j e=>?_⟩;obtain ⟨id,hid,rfl⟩:=Bq.1 i;subst e;exact (jR.1 j).2 (by rw [(lC (c id hid)).2];exact hid)
 .constructor
  .intro h;rcases Az.1 h with h | h
   .obtain ⟨id,hid,rfl⟩:=Bq.1 h;exact (lC (c id hid)).1
   .exact (jR.1 h).1
  .intro h;by_cases f:x.g.id∈ids
   .refine De _ (Bq.2 ⟨x.g.id,f,?_⟩);exact aGs k (lC (c _ f)).1 h (lC (c _ f)).2
   .exact Cv _ (jR.2 ⟨h,f⟩)
structure Base(s:Sta):Prop where
 c:s.c.sm
 ids:((s.pend++s.run.map Rn.pn).map λ x=>x.g.id).Nodup
 seqs:((s.pend++s.run.map Rn.pn).map λ x=>x.seq).Nodup
 few:(s.pend++s.run.map Rn.pn).length<=39
 gang:∀ x∈s.pend++s.run.map Rn.pn,(0<=x.g.pods/\x.g.pods<=16)/\bI x.g.need=true/\x.g.id≠0
structure ai(s:Sta)(r:Rd)(rest:a7):Prop where
 c:r.s.c=s.c
 now:r.s.now=s.now
 nxt:r.s.nxt=s.nxt
 hist:r.s.hist=s.hist
 perm:(r.s.pend++r.s.run.map Rn.pn).Perm (s.pend++s.run.map Rn.pn)
 sub:∀ p∈rest,p∈r.s.pend
 rn:rest.Nodup
 start:r.head=false->r.start=0
 hs:∀ x∈r.s.run,x.hs.length<=1048576
def ai.few{s:Sta}{r:Rd}{rest:a7}(b:Base s)(h:ai s r rest):r.s.pend.length+r.s.run.length<=39:=by have:=h.perm.length_eq;have a:=b.few;simp at this a;omega
def ai.sm{s:Sta}{r:Rd}{rest:a7}(b:Base s)(h:ai s r rest):Sm r.s.run:=⟨by have:=h.few b;omega,h.hs⟩
def ai.once{s:Sta}{r:Rd}{rest:a7}(b:Base s)(h:ai s r rest):H3 r.s.run:=by have h1:=((h.perm.map λ x=>x.g.id).nodup_iff).2 b.ids;have a:=((h.perm.map λ x=>x.seq).nodup_iff).2 b.seqs;rw [Bk,Cs,Dn] at h1 a;have h1:=h1.2.1;have a:=a.2.1;unfold Ld at h1 a;rw [Fs] at h1 a;exact h1.and a
def ai.pids{s:Sta}{r:Rd}{rest:a7}(b:Base s)(h:ai s r rest):(r.s.pend.map λ x=>x.g.id).Nodup:=by have h1:=((h.perm.map λ x=>x.g.id).nodup_iff).2 b.ids;rw [Bk,Cs] at h1;exact h1.1
def ai.gangP{s:Sta}{r:Rd}{rest:a7}(b:Base s)(h:ai s r rest){p:Pn}(hp:p∈r.s.pend):(0<=p.g.pods/\p.g.pods<=16)/\bI p.g.need=true/\p.g.id≠0:=
 b.gang p (h.perm.mem_iff.1 (De _ hp))
def ai.skip{s:Sta}{r:Rd}{p:Pn}{rest:a7}(h:ai s r (p::rest)):ai s r rest:=
 {h with sub:=λ q a=>h.sub q (Bb _ a),rn:=(Bx.1 h.rn).2}
def ai.adm{s:Sta}{r:Rd}{p:Pn}{rest:a7}(b:Base s)(h:ai s r (p::rest)){fl:Int}{hs:aw}(hl:hs.length<=1048576):ai s (PL r p fl hs) rest where
 c:=h.c
 now:=h.now
 nxt:=h.nxt
 hist:=h.hist
 perm:=by have hp:=(BZ (h.sub p (Ar ..)) (h.pids b)).1;show (dN r.s.pend p.g.id++(r.s.run++[_]).map Rn.pn).Perm _;refine Mk ?_ h.perm;rw [Bk,<-Ae];refine (Dv (l₂:=[p])).trans ?_;rw [<-Ae];exact Dq _ hp
 sub q hq:=(BZ (h.sub p (Ar ..)) (h.pids b)).2 q (h.sub q (Bb _ hq)) λ e=>(Bx.1 h.rn).1 (e▸hq)
 rn:=(Bx.1 h.rn).2
 start:=h.start
 hs x hx:=by
  rcases Az.1 hx with hx | hx
  .exact h.hs x hx
  .rw [Dh.1 hx];exact hl
def ai.evic{s:Sta}{r:Rd}{rest:a7}(b:Base s)(h:ai s r rest){ids:aw}(j:ids.Nodup)(d:∀ id∈ids,0<=aQ (bU id) r.s.run 0):ai s (mW r ids) rest:=by
 obtain ⟨n,m,g,i,_,l,o,_,_⟩:=BD r.s.run ids r;have hp:=G6 r.s.run ids r;refine ⟨n.trans h.c,m.trans h.now,g.trans h.nxt,i.trans h.hist,?_,λ p a=>hp.mem_iff.2 (Cv _ (h.sub p a)),h.rn,λ e=>?_,λ x k=>h.hs x (Fg.1 k).1⟩
 .show ((ids.foldl (dT r.s.run) r).s.pend++(aE r.s.run ids).map Rn.pn).Perm _;refine Mk ?_ h.perm;refine (Dq _ hp).trans ?_;have f:=(ML (h.once b) j d).map Rn.pn;rw [Bk,Dn] at f;refine (Dq _ Dv).trans ?_;rw [Ae];exact Du _ f
 .show (ids.foldl (dT r.s.run) r).start=0;rw [o];refine h.start ?_;rw [<-l];exact e
def yQ{s:Sta}{r:Rd}{rest:a7}(b:Base s)(h:ai s r rest){g:Gan}(j:cG r.s.c r.s.run g=none){ids:aw}(d:gI r.s.c r.s.run g=some ids):
  ids≠[]/\ids.Nodup/\ids.length<=39/\(∀ id∈ids,0<=aQ (bU id) r.s.run 0)/\∃ x,cG r.s.c (aE r.s.run ids) g=some x:=by
 obtain ⟨_,h1,i,h3⟩:=zZ d;have hl:=aIz (h.once b) d;have a:=h.few b;refine ⟨λ e=>?_,h1,by omega,λ id hid=>?_,Cy.1 h3⟩
 .subst e;unfold rT at h3;rw [fR,j] at h3;cases h3
 .obtain ⟨_,x,f,e,_⟩:=i id hid;exact DT _ 0 x f e
def aGR{s:Sta}{r:Rd}{p:Pn}{rest:a7}(b:Base s)(h:ai s r (p::rest))(he:r.ev.length<=900000):LookPre r p where
 c:=by rw [h.c];exact b.c
 run:=h.sm b
 pend:=by have:=h.few b;omega
 ev:=he
 pods:=(h.gangP b (h.sub p (Ar ..))).1
 start:=h.start
 cho hf ids hq:=by obtain ⟨a1,_,a3,a4,_⟩:=yQ b h hf hq;exact ⟨a1,by omega,a4⟩
def YG{s:Sta}{r:Rd}{p:Pn}{rest:a7}(b:Base s)(h:ai s r (p::rest)):ai s (cO r p) rest/\(cO r p).ev.length<=r.ev.length+40:=by
 have v:=(h.gangP b (h.sub p (Ar ..))).1;have a:=h.skip;have j:∀ {q:Rd},ai s q (p::rest)->ai s (admR q p).1 rest/\(admR q p).1.ev.length<=q.ev.length+1:=λ{q} d=>by
  unfold admR;cases i:cG q.s.c q.s.run p.g with
  | none=>exact ⟨d.skip,Hl _⟩
  | some x=>
   have o:=aDo v i;obtain ⟨fl,hs⟩:=x;unfold FE;dsimp only;split
   .exact ⟨d.skip,Hl _⟩
   .exact ⟨d.adm b o,by show (q.ev++[_]).length<=_;simp⟩
 unfold cO;split
 .exact ⟨(j h).1,by have:=(j h).2;omega⟩
 .rename_i t;split
  .exact ⟨a,by omega⟩
  .rename_i u;have f:r.head=false:=by cases d:r.head with | false=>rfl | true=>exact absurd d u
   have k:cG r.s.c r.s.run p.g=none:=by
    cases i:cG r.s.c r.s.run p.g with
    | none=>rfl
    | some x=>
     obtain ⟨fl,hs⟩:=x;refine absurd ?_ t;unfold admR;rw [i];unfold FE;dsimp only;rw [f];rfl
   cases d:gI r.s.c r.s.run p.g with
   | none=>
    show ai s (pE r p _) rest/\(pE r p _).ev.length<=_;cases tW r.s.c r.s.now r.s.run p.g with
    | none=>exact ⟨a,by show r.ev.length<=_;omega⟩
    | some n=>exact ⟨⟨a.c,a.now,a.nxt,a.hist,a.perm,a.sub,a.rn,λ e=>(by cases e),a.hs⟩,by show (r.ev++[_]).length<=_;simp⟩
   | some ids=>
    obtain ⟨_,m,y,l,_⟩:=yQ b h k d;obtain ⟨w,z⟩:=j (h.evic b m l);refine ⟨w,?_⟩;have A:(mW r ids).ev.length=r.ev.length+ids.length:=(BD r.s.run ids r).2.2.2.2.2.2.2.2;show (admR (mW r ids) p).1.ev.length<=_;omega
def KR(s:Sta)(r:Rd)(rest:a7):Prop:=ai s r rest/\r.ev.length+100*rest.length<=900000
def xN{s:Sta}(b:Base s)(r:Rd)(p:Pn)(rest:a7)(h:KR s r (p::rest)):KR s (cO r p) rest:=by have c:=h.2;rw [Al] at c;obtain ⟨a,h3⟩:=YG b h.1;exact ⟨a,by omega⟩
def XS{s:Sta}(b:Base s)(r:Rd)(p:Pn)(rest:a7)(h:KR s r (p::rest)):BK r p/\KR s (cO r p) rest:=by have a:=h.2;rw [Al] at a;exact ⟨aCx r p (aGR b h.1 o_),xN b r p rest h⟩
structure RunOK(s:Sta):Prop where
 base:Base s
 sm:StaSm' s
 ord:OrdOK s
 at':mK s.pend
 tot:Tot (ltP s) s.pend
def RunOK.start{s:Sta}(h:RunOK s):KR s ⟨s,[],false,0⟩ (CO s):=by
 have hp:(CO s).Perm s.pend:=fE _ _;have c:s.pend.Nodup:=by have:=h.base.ids;rw [Bk,Cs] at this;have:=this.1;unfold Ld at this;rw [Fs] at this;exact Je (λ h e=>h (by rw [e])) this
 have hl:=h.base.few;rw [Ah] at hl;have a:=hp.length_eq;refine ⟨⟨rfl,rfl,rfl,rfl,Jf _,λ p b=>hp.mem_iff.1 b,hp.symm.nodup c,λ_=>rfl,h.sm.run.2⟩,?_⟩;show 0+_<=_;omega
def pC(s:Sta):Rd:=(CO s).foldl cO ⟨s,[],false,0⟩
def B5{s:Sta}(b:Base s):∀ (L:a7) (r:Rd),KR s r L->KR s (L.foldl cO r) []
 | [],_,h=>h
 | p::L,r,h=>B5 b L (cO r p) (xN b r p L h)
def RunOK.few{s:Sta}(h:RunOK s):s.pend.length<40:=by have:=h.base.few;rw [Ah] at this;omega
def aFO(s:Sta)(h:RunOK s):aq 52 [s.av] [] (.ret (.tup [(pC s).s.av,.slice 3 (evv (pC s).ev) .no])) []:=by have a:=h.few;have hl:(CO s).length=s.pend.length:=(fE _ _).length_eq;exact aIn (KR s) (XS h.base) s h.sm (CO s) o_ (aBZ s h.ord a h.at' h.tot) h.start
def fM(s:Sta)(g:Gan):Sta×Int:=
 if eQ s.c g≠0 then (s,eQ s.c g) else
 if 0<=iW g.id s.pend\/0<=aQ (bU g.id) s.run 0 then (s,5) else
 if (cG s.c [] g).isNone=true then (s,6) else
 if 32<=s.pend.length+s.run.length then (s,8) else
 ({s with pend:=jV s.pend ⟨g,s.nxt,s.now⟩,nxt:=s.nxt+1},0)
def wW(l:a6)(t:Int):bg:=(l.filter λ x=>decide (dG x<=t)).map λ x=>⟨3,x.g.id,0⟩
def kL(s:Sta)(n:Int):Sta×bg×Int:=
 if n<1\/1048576<n then (s,[],1) else
 if 1099511627776-n<s.now then (s,[],8) else
 ({s with hist:=tkL s.hist (AL s.c s.run) n s.c.half,now:=s.now+n,run:=atL s.run (s.now+n)},wW s.run (s.now+n),0)
abbrev qH(s:Sta):ab:=.cells 31 s.cs
def aDd{c:Con}{g:Gan}(h:eQ c g=0):(0<=g.pods/\g.pods<=16)/\bI g.need=true:=by
 unfold eQ at h;split at h
 .rename_i a;unfold KK at a;simp only [Ad,decide_eq_true_eq] at a;exact ⟨⟨by omega,by omega⟩,a.2.1⟩
 .omega
def Y8{x:Rn}{l:a6}{t:Int}(h:dG x<=t):wW (x::l) t=⟨3,x.g.id,0⟩::wW l t:=by unfold wW;rw [Hh,if_pos (decide_eq_true h)];rfl
def Y9{x:Rn}{l:a6}{t:Int}(h:¬ dG x<=t):wW (x::l) t=wW l t:=by unfold wW;rw [Hh,if_neg (by simpa using h)]
def aH(s:Sta)(x:Cmd):Sta×bg×Int:=
 if C8.chk x≠0 then (s,[],C8.chk x) else
 if x.k=1 then (if bS x.c≠0 then (s,[],bS x.c) else if 0<s.pend.length+s.run.length then (s,[],7) else ({s with c:=x.c,hist:=Aj x.c.ns.length 0},[],0)) else
 if x.k=2 then ((fM s x.g).1,[],(fM s x.g).2) else
 if x.k=5 then kL s x.n else
 if x.k=6 then ((pC s).s,(pC s).ev,0) else
 if 0<=aQ (bU x.n) s.run 0 then ({s with run:=aE s.run [x.n]},[],0) else
 if x.k=3\/iW x.n s.pend<0 then (s,[],4) else
 ({s with pend:=dN s.pend x.n},[],0)
structure StOK(s:Sta):Prop where
 c:s.c.sm
 run:RunOK s
 half:s.c.half<=9223372036854775807
 nxt:0<=s.nxt/\s.nxt<=1099511627777
def aNu{x:Cmd}(h:C8.chk x=0):1<=x.k/\x.k<=6:=by
 unfold C8.chk at h;split at h
 .rename_i a;simpa using a
 .omega
def nT(s:Sta)(h:StaSm' s):aq 44 [s.av] [] (.ret s.av) []:=by have h1:=KA s.c.ns h.ns;have a:=KC s.c.hs h.hs;have h3:=SP s.pend h.pend;have b:=SQ s.hist h.hist;have d:=aA.nil2 (by have h:=oW s.run h.run [] s_;rw [fR] at h;exact h);exact c_ Tryz.f44 λ_=>zW
def aAV(s:Sta)(id:Int)(hl:s.run.length<=1048576):aq 80 [s.av,ii id] [] (.ret (ii (aQ (bU id) s.run 0))) []:=by
 have h:=DL _ id (FZ id) s.run hl;generalize aQ (bU id) s.run 0=r at *
 exact c_ Tryz.f80 λ_=>zW
def IJ:aq 12 [] [] (.ret (Sta.av ⟨⟨[],[],0,0⟩,0,1,[],[],[]⟩)) []:=by exact c_ Tryz.f12 λ_=>zW
abbrev aMc(s S:Sta)(g:Gan)(e:Int):Prop:=aq 48 [.ref 0 0,g.av] [qH s] (.ret (ii e)) [qH S]
set_option maxHeartbeats 2000000 in
def aFu(s:Sta)(g:Gan)(p:s.c.sm)(hp:s.pend.length<=1000000)(hl:s.run.length<=1000000)(v:s.nxt<=1099511627777)(n:0<=s.nxt):aMc s (fM s g).1 g (fM s g).2:=by
 have h1:=LL s.c g;have w:=aBK s.pend g.id;have h3:=aAV s g.id o_;have l:(pnv s.pend).length=s.pend.length:=by simp
 have o:(rav s.run).length=s.run.length:=by simp
 unfold fM;by_cases d:eQ s.c g≠0
 .rw [if_pos d];have t:(eQ s.c g !=0)=true:=by simpa using d
  generalize eQ s.c g=e at *
  exact zqya1
 rw [if_neg d];have d:eQ s.c g=0:=Fa.1 d;obtain ⟨q,u⟩:=aDd d;rw [d] at h1;have j:=M6 s.c p g q;generalize iW g.id s.pend=a at *
 generalize aQ (bU g.id) s.run 0=b at *
 by_cases k:0<=a\/0<=b
 .rw [if_pos k];by_cases m:0<=a
  .exact zqya1
  .have r:0<=b:=o_;exact zqya1
 rw [if_neg k];have m:a<0:=o_;have r:b<0:=o_;cases i:(cG s.c [] g).isNone with
 | true=>
  rw [i] at j;rw [if_pos rfl];exact zqya1
 | false=>
  rw [i] at j;rw [if_neg d_];by_cases h:32<=s.pend.length+s.run.length
  .rw [if_pos h];exact zqya1
  .rw [if_neg h];have x:=IZ s.pend ⟨g,s.nxt,s.now⟩ hp;generalize jV s.pend ⟨g,s.nxt,s.now⟩=pq at *
   exact zqya1
def aIF(n a b:Int)(r:Bool)(d:(decide (a<=n)&&decide (n<=b))=r):aq 85 [ii n,ii a,ii b] [] (.ret (.bool r)) []:=by
 by_cases h1:a<=n
 .by_cases c:n<=b
  .have e:r=true:=by rw [<-d,decide_eq_true h1,decide_eq_true c];rfl
   subst e;refine c_ Tryz.f85 λ_=>?_
   repeat' first | (refine gN hE ?_;conv=>whnf) | exact rfl | refine zt ?_ | refine zu ?_ ?_ | intro h | fail
   all_goals exact congrArg (λ b=>Res.ret (aa.bool b)) (decide_eq_true c)
  .have e:r=false:=by rw [<-d,decide_eq_true h1,decide_eq_false c];rfl
   subst e;refine c_ Tryz.f85 λ_=>?_
   repeat' first | (refine gN hE ?_;conv=>whnf) | exact rfl | refine zt ?_ | refine zu ?_ ?_ | intro h | fail
   all_goals exact congrArg (λ b=>Res.ret (aa.bool b)) (decide_eq_false c)
 .have e:r=false:=by rw [<-d,decide_eq_false h1];rfl
  subst e;exact c_ Tryz.f85 λ_=>zW
noncomputable abbrev aNf:Func:=Tryz.f51
abbrev aNU(R:Sta)(Q:bg)(e:Int):Goal:=.full 1 (.ret (.tup [.slice 3 (evv Q) .no,ii e])) [qH R]
set_option maxHeartbeats 1000000 in
def aCF(s R:Sta)(hs:Sm s.run)(n:R={s with run:=atL s.run s.now})(Q:bg):∀ (m i:Nat) (ev:bg),i+m=s.run.length->ev.length<=i->ev++wW (s.run.drop i) s.now=Q->
  To (Eo [6] []) aNf (aNU R Q 0) (.head (stk aNf 0) [(0,.ref 0 0),(6,.slice 3 (evv ev) (.own 1 0)),(55,.slice 14 (rav s.run) .no),(56,.int .i64 ((rav s.run).length:Nat)),(57,ii i)] [qH s,evT 0]):=by
 have f:(rav s.run).length=s.run.length:=by simp
 have hl:=hs.1;intro m;induction m with
 | zero=>
  intro i ev j k a;rw [Ai o_] at a;have a:ev++[]=Q:=a;rw [Au] at a;subst a;have o:=aEC s.run hs s.now;generalize atL s.run s.now=ra at *
  subst n;refine gV ?_;exact zW
 | succ m c=>
  intro i ev j k a;have b:i<s.run.length:=o_;rw [Ag b] at a;have get:(rav s.run)[i]? =some s.run[i].av:=eX b;generalize s.run[i]=x at a get;have l:=yI x;have h:(evv ev).length<=1048576:=by simp;omega
  by_cases e:dG x<=s.now
  .rw [Y8 e] at a;have next:=c (i+1) (ev++[⟨3,x.g.id,0⟩]) o_ q_ (by rw [Ae];exact a)
   have d:evv (ev++[⟨3,x.g.id,0⟩])=evv ev++[Ev.av ⟨3,x.g.id,0⟩]:=by simp
   rw [d] at next
   generalize dG x=t at *
   clear c a d;refine gV ?_;exact zW
  .rw [Y9 e] at a;have next:=c (i+1) ev o_ o_ a
   generalize dG x=t at *
   clear c a;refine gV ?_;exact zW
set_option maxHeartbeats 1000000 in
def aCE(s:Sta)(n:Int)(i:s.c.sm)(hs:Sm s.run)(o:LtF s.hist)(b:s.hist.length<=1048576)(r:s.c.half<=9223372036854775807)(m:0<=s.now)(p:s.now<=1099511627776):
  ((kL s n).2.2≠0->aq 51 [.ref 0 0,ii n] [qH s] (.ret (.tup [.slice 3 [] .nil,ii (kL s n).2.2])) [qH (kL s n).1])/\((kL s n).2.2=0->aq 51 [.ref 0 0,ii n] [qH s] (.ret (.tup [.slice 3 (evv (kL s n).2.1) .no,ii 0])) [qH (kL s n).1]):=by
 have j:=aIF n 1 1048576 _ rfl;unfold kL;by_cases a:n<1\/1048576<n
 .rw [if_pos a];have e:(decide (1<=n)&&decide (n<=1048576))=false:=by
   rcases a with q | q
   .rw [decide_eq_false o_];rfl
   .rw [decide_eq_false (show ¬ n<=1048576 by omega),Fc]
  rw [e] at j;refine ⟨λ_=>?_,λ h=>by cases h⟩;exact zqya4
 rw [if_neg a];have t:1<=n:=o_;have l:n<=1048576:=o_;rw [decide_eq_true t,decide_eq_true l] at j;by_cases k:1099511627776-n<s.now
 .rw [if_pos k];refine ⟨λ_=>?_,λ h=>by cases h⟩;exact zqya4
 .rw [if_neg k];refine ⟨λ h=>absurd rfl h,λ_=>?_⟩;have d:=aFD s.c s.run;have hsl:(AL s.c s.run).length<=1048576:=by have:=i.ns;unfold AL ofL mJ;rw [oL];simp;omega
  have h1:=XN s.c i s.run hs.1;have v:=aFh s.hist (AL s.c s.run) o b d hsl n s.c.half o_ r;have u:=aCF {s with hist:=tkL s.hist (AL s.c s.run) n s.c.half,now:=s.now+n} {s with hist:=tkL s.hist (AL s.c s.run) n s.c.half,now:=s.now+n,run:=atL s.run (s.now+n)} hs rfl _ s.run.length 0 [] s_ s_ rfl;rw [Cg] at u;generalize tkL s.hist (AL s.c s.run) n s.c.half=th at *
  generalize AL s.c s.run=sh at *
  generalize wW s.run (s.now+n)=Q at *
  generalize atL s.run (s.now+n)=ra at *
  exact zqya4
abbrev WN(s S:Sta)(c:Con)(e:Int):Prop:=aq 47 [.ref 0 0,c.av] [qH s] (.ret (ii e)) [qH S]
def aEe(s:Sta)(c:Con)(a:c.sm)(h:bS c≠0):WN s s c (bS c):=by
 have h1:=sL c a;generalize bS c=e at *
 have b:(e !=0)=true:=by simpa using h
 exact zqya7
def ZR(s:Sta)(c:Con)(b:c.sm)(h:bS c=0)(hp:s.pend.length<=1000000)(hl:s.run.length<=1000000)(e:0<s.pend.length+s.run.length):WN s s c 7:=by
 have h1:=sL c b;rw [h] at h1;have a:(pnv s.pend).length=s.pend.length:=by simp
 have d:(rav s.run).length=s.run.length:=by simp
 exact zqya7
def aAd(c:Con):S7 c=Aj c.ns.length 0:=by
 unfold S7;have h:∀ (l:bb) (i:Nat),dW (λ_ _=>0) l i=Aj l.length 0:=by
  intro l;induction l with
  | nil=>intro i;rfl
  | cons x l a=>intro i;unfold dW;rw [a];rfl
 exact h _ 0
set_option maxHeartbeats 1000000 in
def aIr(s:Sta)(c:Con)(a:c.sm)(h:bS c=0)(hp:s.pend=[])(hl:s.run=[]):WN s {s with c:=c,hist:=Aj c.ns.length 0} c 0:=by
 have h1:=sL c a;rw [h] at h1;have d:(pnv s.pend).length=0:=by rw [hp];rfl
 have e:(rav s.run).length=0:=by rw [hl];rfl
 have k:=a.ns;have b:=a.hs;have i:=KA c.ns o_;have h3:=KC c.hs o_;have j:=aET c a;rw [aAd] at j;generalize Aj c.ns.length 0=z at *
 refine cT (E:=(Er [] [24,38])) (fn:=Tryz.f47) (g:=.full 1 _ _) λ_=>?_
 repeat' first | (refine gN (hEr [] [24,38]) ?_;conv=>whnf) | refine .pure _ [] h1 ?_ | refine .pure _ [] i ?_ | exact rfl | refine zt ?_ | refine zu ?_ ?_ | intro h | fail
 refine .pure _ [] h3 ?_;refine cJ (hEr [] [24,38]) 27 ?_;conv=>whnf
 refine To.permC (hEr [] [24,38]) [0,1,2,3,4,5,6,7,8] [9,10,11,12,13] (by rfl) ?_;conv=>whnf
 refine aLC ?_;conv=>whnf;conv=>whnf
 refine aLC ?_;conv=>whnf;conv=>whnf
 refine aLC ?_;conv=>whnf;conv=>whnf
 refine aLC ?_;conv=>whnf;conv=>whnf
 refine aLC ?_;conv=>whnf;conv=>whnf
 refine aLC ?_;conv=>whnf
 exact zW
abbrev ofC(x:Cmd)(v:aa):Prop:=aq 46 [x.av] [] (.ret v) []
def aNS(x:Cmd)(a:x.k=1):ofC x (.iface 134 (.agg x.c.cs)):=by exact zqya0
def aNR(x:Cmd)(a:x.k=2):ofC x (.iface 138 (.agg x.g.cs)):=by exact zqya0
def aME(x:Cmd)(a:x.k=3):ofC x (.iface 141 (.agg [ii x.n])):=by exact zqya0
def aKw(x:Cmd)(a:x.k=4):ofC x (.iface 143 (.agg [ii x.n])):=by exact zqya0
def aNQ(x:Cmd)(a:x.k=5):ofC x (.iface 147 (.agg [ii x.n])):=by exact zqya0
def aNP(x:Cmd)(a:x.k=6):ofC x (.iface 150 (.agg [])):=by exact zqya0
abbrev jA(s:Sta)(x:Cmd)(R:Sta×bg×Int):Prop:=aq 28 [s.av,x.av] [] (.ret (.tup [R.1.av,.slice 3 (evv R.2.1) .no,ii R.2.2])) []
def aFL(s:Sta)(hs:StaSm' s)(x:Cmd)(e:Int)(a:C8.chk x=e)(h:e≠0):jA s x (s,[],e):=by
 have c:=nT s hs;have h1:=C8.check_any x e a;have b:(e !=0)=true:=by simpa using h
 exact zqya12
set_option maxHeartbeats 1000000 in
def aMl(s:Sta)(hs:StaSm' s)(x:Cmd)(j:C8.chk x=0)(m:x.k=2)(S:Sta)(e:Int)(l:e≠0->S=s)(b:aMc s S x.g e):jA s x (S,[],e):=by
 have c:=nT s hs;have h1:=C8.check_any x 0 j;have d:=aNR x m;by_cases a:e=0
 .subst a;refine c_ Tryz.f28 λ_=>?_
  repeat' first | (refine gN hE ?_;conv=>whnf) | refine .pure _ [] c ?_ | refine .pure _ [] h1 ?_ | refine .pure _ [] d ?_ | refine .eff [] [4] _ _ rfl b ?_ | exact rfl | refine zt ?_ | refine zu ?_ ?_ | intro h | fail
 .have i:(e !=0)=true:=by simpa using a
  rw [l a] at b⊢;refine c_ Tryz.f28 λ_=>?_
  repeat' first | (refine gN hE ?_;conv=>whnf) | refine .pure _ [] c ?_ | refine .pure _ [] h1 ?_ | refine .pure _ [] d ?_ | refine .eff [] [4] _ _ rfl b ?_ | refine Ab (λ_=>?_) (λ h=>absurd (i.symm.trans h) d_) | exact rfl | refine zt ?_ | refine zu ?_ ?_ | intro h | fail
set_option maxHeartbeats 1000000 in
def aMi(s:Sta)(hs:StaSm' s)(x:Cmd)(a:C8.chk x=0)(b:x.k=6)(S:Sta)(ev:bg)(d:aq 52 [s.av] [] (.ret (.tup [S.av,.slice 3 (evv ev) .no])) []):jA s x (S,ev,0):=by have e:=nT s hs;have h1:=C8.check_any x 0 a;have c:=aNP x b;exact zqya12
set_option maxHeartbeats 1000000 in
def aMj(s:Sta)(hs:StaSm' s)(x:Cmd)(j:C8.chk x=0)(m:x.k=5)(S:Sta)(ev:bg)(e:Int)(l:e≠0->S=s/\ev=[])
  (b:(e≠0->aq 51 [.ref 0 0,ii x.n] [qH s] (.ret (.tup [.slice 3 [] .nil,ii e])) [qH S])/\(e=0->aq 51 [.ref 0 0,ii x.n] [qH s] (.ret (.tup [.slice 3 (evv ev) .no,ii 0])) [qH S])):jA s x (S,ev,e):=by
 have c:=nT s hs;have h1:=C8.check_any x 0 j;have d:=aNQ x m;by_cases a:e=0
 .have h3:=b.2 a;subst a;refine c_ Tryz.f28 λ_=>?_
  repeat' first | (refine gN hE ?_;conv=>whnf) | refine .pure _ [] c ?_ | refine .pure _ [] h1 ?_ | refine .pure _ [] d ?_ | refine .eff [] [4] _ _ rfl h3 ?_ | exact rfl | refine zt ?_ | refine zu ?_ ?_ | intro h | fail
 .have i:(e !=0)=true:=by simpa using a
  have h3:=b.1 a;obtain ⟨rfl,rfl⟩:=l a;refine c_ Tryz.f28 λ_=>?_
  repeat' first | (refine gN hE ?_;conv=>whnf) | refine .pure _ [] c ?_ | refine .pure _ [] h1 ?_ | refine .pure _ [] d ?_ | refine .eff [] [4] _ _ rfl h3 ?_ | refine Ab (λ_=>?_) (λ h=>absurd (i.symm.trans h) d_) | exact rfl | refine zt ?_ | refine zu ?_ ?_ | intro h | fail
set_option maxHeartbeats 1000000 in
def aA8(s:Sta)(hs:StaSm' s)(x:Cmd)(l:C8.chk x=0)(n:x.k=1)(S:Sta)(e:Int)(m:e≠0->S=s)(b:WN s S x.c e):jA s x (S,[],e):=by
 have d:=nT s hs;have h1:=C8.check_any x 0 l;have i:=aNS x n;by_cases a:e=0
 .subst a;refine c_ Tryz.f28 λ_=>?_
  repeat' first | (refine gN hE ?_;conv=>whnf) | refine .pure _ [] d ?_ | refine .pure _ [] h1 ?_ | refine .pure _ [] i ?_ | refine .eff [] [4] _ _ rfl b ?_ | exact rfl | refine zt ?_ | refine zu ?_ ?_ | intro h | fail
 .have j:(e !=0)=true:=by simpa using a
  rw [m a] at b⊢;refine c_ Tryz.f28 λ_=>?_
  repeat' first | (refine gN hE ?_;conv=>whnf) | refine .pure _ [] d ?_ | refine .pure _ [] h1 ?_ | refine .pure _ [] i ?_ | refine .eff [] [4] _ _ rfl b ?_ | refine Ab (λ_=>?_) (λ h=>absurd (j.symm.trans h) d_) | exact rfl | refine zt ?_ | refine zu ?_ ?_ | intro h | fail
def Q8(n:Nat)(id:Int)(d:∀ x:Rn,aA Tryz.prog n [x.av,.ptr [ii id]] [] (.ret (.bool (bU id x))) [])(l:a6)(hl:l.length<=1048576)(r:Int):∀ (m i:Nat),i+m=l.length->aQ (bU id) (l.drop i) i=r->
  To E HD (.full 1 (.ret (ii r)) (xP l)) (.head (stk HD 0) [(0,.row 0 0),(1,idF n id),(7,.int .i64 ((rav l).length:Nat)),(8,ii i)] (xP l)):=by
 have g:(rav l).length=l.length:=by simp
 intro m;induction m with
 | zero=>
  exact zqya11
 | succ m e=>
  intro i h a;have b:i<l.length:=o_;rw [Ag b] at a;have get:(rav l)[i]? =some l[i].av:=eX b;generalize l[i]=x at a get;unfold aQ at a;have f:=d x;have e:=e (i+1) o_;cases c:bU id x with
  | true=>
   exact zqya13
  | false=>
   exact zqya8
def aCU(n:Nat)(id:Int)(a:∀ x:Rn,aA Tryz.prog n [x.av,.ptr [ii id]] [] (.ret (.bool (bU id x))) [])(l:a6)(hl:l.length<=1048576):aq 115 [.row 0 0,idF n id] (xP l) (.ret (ii (aQ (bU id) l 0))) (xP l):=by
 have h:=Q8 n id a l hl _ l.length 0 o_ rfl;rw [Cg] at h;generalize aQ (bU id) l 0=r at *
 refine cT (E:=E) (fn:=Tryz.f115) (g:=.full 1 _ _) λ_=>?_;exact zW
def FS(s:Sta)(id:Int)(hl:s.run.length<=1048576):aq 80 [s.avR 0 0,ii id] (xP s.run) (.ret (ii (aQ (bU id) s.run 0))) (xP s.run):=by
 have h:=aCU _ id (FZ id) s.run hl;generalize aQ (bU id) s.run 0=r at *
 refine cT (E:=E) (fn:=Tryz.f80) (g:=.full 1 _ _) λ_=>?_
 repeat' first | (refine gN hE ?_;conv=>whnf) | refine .eff [2] [0] _ _ rfl h ?_ | exact rfl | refine zt ?_ | refine zu ?_ ?_ | intro h | fail
 refine ⟨[],[0],⟨rfl,rfl⟩,rfl,rfl⟩
abbrev BM:aa:=.agg [ii 0,ii 0,ii 0,ii 0,ii 0,ii 0,ii 0,ii 0,ii 0,ii 0,ii 0,ii 0,ii 0,.slice 1 [] .no]
def QH(xs:a6)(i:Nat)(d:i<xs.length)(e:xs.length<=1000000):aq 83 [.row 0 0,.int .i64 i,.int .i64 ((i:Int)+1)] (xP xs)
  (.ret (.sub 0 0 0 (xs.length-1) 14)) [.row 0 14 48 (rav (xs.eraseIdx i)++[BM])]:=by
 refine cT (E:=E) (fn:=Tryz.f83) (g:=.full 1 _ _) λ_=>gV ?_;refine ⟨i,rfl,gV ?_⟩;refine ⟨i+1,by push_cast;rfl,?_⟩;refine gV ?_;refine ⟨xs.length,by simp,gV ?_⟩;refine ⟨⟨⟨by omega,by omega⟩,by simp⟩,gV ?_⟩;refine ⟨λ h=>?_,λ h=>?_⟩
 .simp at h;omega
 .refine gV ?_;refine ⟨i,rfl,gV ?_⟩;refine ⟨by simp;omega,?_⟩;refine gV ?_;refine ⟨i+1,by push_cast;rfl,?_⟩;refine gV ?_;refine ⟨by simp;omega,?_⟩;refine gV ?_;have a:(rav xs).length=xs.length:=by simp
  have b:(Hr ((rav xs).length-(i+1)) (Hc (i+1) (rav xs))).length=xs.length-(i+1):=by simp
  rw [b,a];refine ⟨by omega,gV ?_⟩;refine ⟨xs.length-1,by omega,gV ?_⟩;refine ⟨xs.length,rfl,gV ?_⟩;refine ⟨by simp;omega,?_⟩;refine gV ?_;refine ⟨[],[0],⟨rfl,rfl⟩,?_⟩;conv=>whnf
  refine ⟨?_,?_⟩
  .show Res.ret (.sub 0 0 0 (i+(xs.length-(i+1))) 14)=_;rw [show i+(xs.length-(i+1))=xs.length-1 from by omega]
  .have h:=Q2.del_list (rav xs) i (by rw [a];exact d) BM;rw [a] at h;have c:(rav xs).eraseIdx i=rav (xs.eraseIdx i):=by simp only [rav,Fu,Bk,Ga,Ip]
   rw [c] at h;exact congrArg (λ l=>[ab.row 0 14 48 l]) h
abbrev aMd(s:Sta)(run:aa):ab:=.cells 31 [.slice 11 (nav s.c.ns) .no,.slice 6 (hav s.c.hs) .no,ii s.c.half,ii s.c.age,ii s.now,ii s.nxt,.slice 11 (pnv s.pend) .no,run,.slice 1 (fv s.hist) .no]
abbrev aJK(s:Sta):au:=[aMd s (.row 1 0),.row 0 14 48 (rav s.run)]
def T2(s:Sta)(id:Int)(hl:s.run.length<=1000000)(h:¬ 0<=aQ (bU id) s.run 0):aq 49 [.ref 0 0,ii id] (aJK s) (.ret (ii 4)) (aJK s):=by
 have h1:=FS s id o_;generalize aQ (bU id) s.run 0=a at *
 exact zqya10
def T1(s:Sta)(id:Int)(i:Nat)(hl:s.run.length<=1000000)(a:i<s.run.length)(h:aQ (bU id) s.run 0=(i:Int)):aq 49 [.ref 0 0,ii id] (aJK s) (.ret (ii 0)) [aMd s (.sub 1 0 0 (s.run.length-1) 14),.row 0 14 48 (rav (s.run.eraseIdx i)++[BM])]:=by
 have h1:=FS s id o_;have b:=QH s.run i a hl;rw [h] at h1;generalize s.run.length-1=q at *
 generalize rav (s.run.eraseIdx i)++[BM]=K at *
 exact zqya10
set_option maxHeartbeats 1000000 in
def aJX(s:Sta)(hs:StaSm' s)(x:Cmd)(c:C8.chk x=0)(e:x.k=3)(hl:s.run.length<=1000000)(h:¬ 0<=aQ (bU x.n) s.run 0):jA s x (s,[],4):=by
 have b:=A0 s hs;have h1:=C8.check_any x 0 c;have d:=aME x e;have a:=T2 s x.n hl h;refine c_ Tryz.f28 λ_=>?_
 repeat' first | (refine gN hE ?_;conv=>whnf) | refine .pure _ _ b ?_ | refine .pure _ [] h1 ?_ | refine .pure _ [] d ?_ | refine .eff [] [6,5] _ _ rfl a ?_ | exact rfl | refine zt ?_ | refine zu ?_ ?_ | intro h | fail
def aD9(l:a6)(i:Nat)(a:i<l.length):((rav (l.eraseIdx i)++[BM]).drop 0).take (l.length-1)=rav (l.eraseIdx i):=by
 have h:(rav (l.eraseIdx i)).length=l.length-1:=by simp [Kd,a]
 rw [Cg,<-h,List.take_left'];rfl
set_option maxHeartbeats 1000000 in
def aMk(s:Sta)(hs:StaSm' s)(x:Cmd)(e:C8.chk x=0)(l:x.k=3)(hl:s.run.length<=1000000)(i:Nat)(a:i<s.run.length)(h:aQ (bU x.n) s.run 0=(i:Int)):jA s x ({s with run:=s.run.eraseIdx i},[],0):=by
 have d:=A0 s hs;have h1:=C8.check_any x 0 e;have j:=aME x l;have c:=T1 s x.n i hl a h;have b:=aD9 s.run i a;unfold jA Sta.av Sta.cs;dsimp only;rw [<-b];generalize s.run.length-1=q at *
 generalize rav (s.run.eraseIdx i)++[BM]=K at *
 clear b;refine c_ Tryz.f28 λ_=>?_
 repeat' first | (refine gN hE ?_;conv=>whnf) | refine .pure _ _ d ?_ | refine .pure _ [] h1 ?_ | refine .pure _ [] j ?_ | refine .eff [] [6,5] _ _ rfl c ?_ | exact rfl | refine zt ?_ | refine zu ?_ ?_ | intro h | fail
set_option maxHeartbeats 1000000 in
def aJU(s:Sta)(hs:StaSm' s)(x:Cmd)(b:C8.chk x=0)(c:x.k=4)(hp:s.pend.length<=1000000)(h:¬ iW x.n s.pend<0):jA s x ({s with pend:=dN s.pend x.n},[],0):=by
 have e:=nT s hs;have h1:=C8.check_any x 0 b;have d:=aKw x c;have a:=rI s.pend x.n hp;rw [decide_eq_false h] at a;generalize dN s.pend x.n=pq at *
 exact zqya12
def LD{l:a7}{a:Int}(h:iW a l<0):dN l a=l:=by unfold dN;rw [if_pos h]
set_option maxHeartbeats 1000000 in
def aJW(s:Sta)(hs:StaSm' s)(x:Cmd)(e:C8.chk x=0)(j:x.k=4)(hp:s.pend.length<=1000000)(hl:s.run.length<=1000000)(h:iW x.n s.pend<0)(b:¬ 0<=aQ (bU x.n) s.run 0):jA s x (s,[],4):=by
 have d:=A0 s hs;have h1:=C8.check_any x 0 e;have i:=aKw x j;have a:=rI s.pend x.n hp;rw [decide_eq_true h,LD h] at a;have c:=T2 s x.n hl b;refine c_ Tryz.f28 λ_=>?_
 repeat' first | (refine gN hE ?_;conv=>whnf) | refine .pure _ _ d ?_ | refine .pure _ [] h1 ?_ | refine .pure _ [] i ?_ | refine .pure _ [] a ?_ | refine .eff [] [6,5] _ _ rfl c ?_ | exact rfl | refine zt ?_ | refine zu ?_ ?_ | intro h | fail
set_option maxHeartbeats 1000000 in
def aJV(s:Sta)(hs:StaSm' s)(x:Cmd)(l:C8.chk x=0)(o:x.k=4)(hp:s.pend.length<=1000000)(hl:s.run.length<=1000000)(h:iW x.n s.pend<0)(i:Nat)(a:i<s.run.length)(d:aQ (bU x.n) s.run 0=(i:Int)):jA s x ({s with run:=s.run.eraseIdx i},[],0):=by
 have j:=A0 s hs;have h1:=C8.check_any x 0 l;have m:=aKw x o;have c:=rI s.pend x.n hp;rw [decide_eq_true h,LD h] at c;have e:=T1 s x.n i hl a d;have b:=aD9 s.run i a;unfold jA Sta.av Sta.cs;dsimp only;rw [<-b];generalize s.run.length-1=q at *
 generalize rav (s.run.eraseIdx i)++[BM]=K at *
 clear b;refine c_ Tryz.f28 λ_=>?_
 repeat' first | (refine gN hE ?_;conv=>whnf) | refine .pure _ _ j ?_ | refine .pure _ [] h1 ?_ | refine .pure _ [] m ?_ | refine .pure _ [] c ?_ | refine .eff [] [6,5] _ _ rfl e ?_ | exact rfl | refine zt ?_ | refine zu ?_ ?_ | intro h | fail
def aJe(id:Int):∀ (l:a6) (k i:Nat),(l.map λ x=>x.g.id).Nodup->aQ (bU id) l k=((k+i:Nat):Int)->l.eraseIdx i=aE l [id]
 | [],k,i,_,h=>by have h:(-1:Int)=((k+i:Nat):Int):=h;omega
 | x::l,k,i,hn,h=>by
  rw [Bl,Bx] at hn;unfold aQ at h;by_cases a:bU id x=true
  .rw [if_pos a] at h;obtain rfl:i=0:=o_;have b:x.g.id=id:=by unfold bU at a;simpa using a
   have h1:inB x.g.id [id]=true:=A9.2 (by rw [b];exact Iz _);rw [mM h1];show l=_;refine (Gj.2 λ y d=>?_).symm;have:y.g.id≠id:=λ e=>hn.1 (by rw [b,<-e];exact Cc d);cases c:inB y.g.id [id] with
   | false=>rfl
   | true=>exact absurd (by simpa using A9.1 c) this
  .rw [if_neg a] at h;rcases oJ (bU id) l (k+1) with f | f
   .omega
   .obtain ⟨j,rfl⟩:∃ j,i=j+1:=⟨i-1,by omega⟩
    have h1:inB x.g.id [id]=false:=by
     cases c:inB x.g.id [id] with
     | false=>rfl
     | true=>exact absurd (by unfold bU;simpa using A9.1 c) a
    rw [mL h1];show x::l.eraseIdx j=_;rw [aJe id l (k+1) j hn.2 (by rw [h];congr 1;omega)]
def aID{s:Sta}(b:Base s){n:Int}(h1:¬ iW n s.pend<0)(c:0<=aQ (bU n) s.run 0):False:=by
 obtain ⟨i,d⟩:=lC c;rcases BC n s.pend with ⟨_,h⟩ | ⟨A,p,B,e,hp,_⟩
 .omega
 .have a:=b.ids;rw [Bk,Cs] at a;exact a.2.2 n (by rw [e,<-hp];exact Cc (Cv _ (Ar ..))) n (by rw [<-d,Dn];exact Cc (f:=(λ x=>x.g.id) ∘ Rn.pn) i) rfl
def aAP(s:Sta)(g:Gan):(fM s g).2≠0->(fM s g).1=s:=by
 unfold fM;iterate 4 (split;· exact λ_=>rfl)
 exact λ h=>absurd rfl h
def XG(s:Sta)(n:Int):(kL s n).2.2≠0->(kL s n).1=s/\(kL s n).2.1=[]:=by
 unfold kL;iterate 2 (split;· exact λ_=>⟨rfl,rfl⟩)
 exact λ h=>absurd rfl h
def xK(s:Sta)(x:Cmd)(h:StOK s)(B:x.k=1->x.c.sm):jA s x (aH s x):=by
 have a:=h.run.sm;have y:=h.run.base.few;have o:=aB3 (ai.once h.run.base (s:=s) (r:=⟨s,[],false,0⟩) (rest:=[]) ⟨rfl,rfl,rfl,rfl,Jf _,λ p hp=>(by cases hp),Hj,λ_=>rfl,a.run.2⟩);rw [Ah,Cf] at y;unfold aH;by_cases b:C8.chk x≠0
 .rw [if_pos b];exact aFL s a x _ rfl b
 rw [if_neg b];have b:C8.chk x=0:=Fa.1 b;have C:=aNu b;by_cases m:x.k=1
 .rw [if_pos m];have j:=B m;by_cases d:bS x.c≠0
  .rw [if_pos d];exact aA8 s a x b m _ _ (λ_=>rfl) (aEe s x.c j d)
  rw [if_neg d];have d:bS x.c=0:=Fa.1 d;by_cases f:0<s.pend.length+s.run.length
  .rw [if_pos f];exact aA8 s a x b m _ _ (λ_=>rfl) (ZR s x.c j d o_ o_ f)
  .rw [if_neg f];exact aA8 s a x b m _ _ (λ e=>absurd rfl e) (aIr s x.c j d (Ck.1 o_) (Ck.1 o_))
 rw [if_neg m];by_cases d:x.k=2
 .rw [if_pos d];exact aMl s a x b d _ _ (aAP s x.g) (aFu s x.g h.c o_ o_ h.nxt.2 h.nxt.1)
 rw [if_neg d];by_cases t:x.k=5
 .rw [if_pos t];exact aMj s a x b t _ _ _ (XG s x.n) (aCE s x.n h.c a.run h.run.ord.lt h.run.ord.hl h.half h.run.ord.now.1 h.run.ord.now.2)
 rw [if_neg t];by_cases w:x.k=6
 .rw [if_pos w];exact aMi s a x b w _ _ (aFO s h.run)
 rw [if_neg w];by_cases l:0<=aQ (bU x.n) s.run 0
 .rw [if_pos l]
  obtain ⟨i,u⟩:∃ i:Nat,aQ (bU x.n) s.run 0=(i:Int):=⟨_,(Kt l).symm⟩
  have q:i<s.run.length:=by rcases oJ (bU x.n) s.run 0 with z | z<;>omega
  rw [<-aJe x.n s.run 0 i o (by rw [u];congr 1;omega)];by_cases f:x.k=3
  .exact aMk s a x b f o_ i q u
  .have A:iW x.n s.pend<0:=Lf λ e=>aID h.run.base e l;exact aJV s a x b o_ o_ o_ A i q u
 rw [if_neg l];by_cases v:x.k=3\/iW x.n s.pend<0
 .rw [if_pos v];by_cases f:x.k=3
  .exact aJX s a x b f o_ l
  .exact aJW s a x b o_ o_ o_ (v.resolve_left f) l
 .rw [if_neg v];exact aJU s a x b o_ o_ o_
abbrev cmv(l:List Cmd):ax:=l.map Cmd.av
noncomputable abbrev aI9:Func:=Tryz.f13
def kN:List Cmd->Sta->aw->Sta×aw
 | [],s,es=>(s,es)
 | x::l,s,es=>kN l (aH s x).1 (es++[(aH s x).2.2])
set_option maxHeartbeats 1000000 in
def X5(L:List Cmd)(p:L.length<=1000000)(c:Sta->List Cmd->Prop)(n:∀ s x l,c s (x::l)->jA s x (aH s x)/\c (aH s x).1 l)(R:Sta×aw):∀ (m i:Nat) (s:Sta) (es:aw),i+m=L.length->es.length<=i->c s (L.drop i)->kN (L.drop i) s es=R->
  To (Eo [5] []) aI9 (.pure (.ret (.tup [R.1.av,.slice 1 (iv R.2) .no]))) (.head (stk aI9 0) [(2,.ref 0 0),(4,.ref 1 0),(5,.slice 1 (iv es) (.own 2 0)),(10,.slice 15 (cmv L) .no),(11,.int .i64 ((cmv L).length:Nat)),(12,ii i)] [FH,qH s,.tail 0 1 70]):=by
 have g:(cmv L).length=L.length:=by simp
 intro m;induction m with
 | zero=>
  intro i s es j o _ a;rw [Ai o_] at a;have a:(s,es)=R:=a;subst a;refine gV ?_;exact zW
 | succ m f=>
  intro i s es j o d a;have b:i<L.length:=o_;rw [Ag b] at a d;have get:(cmv L)[i]? =some L[i].av:=by simp [b]
  generalize L[i]=x at a d get;obtain ⟨h1,k⟩:=n _ _ _ d;have next:=f (i+1) (aH s x).1 (es++[(aH s x).2.2]) o_ q_ k a
  have h:(iv es).length<=1048576:=by simp;omega
  have e:iv (es++[(aH s x).2.2])=iv es++[ii (aH s x).2.2]:=by simp
  rw [e] at next
  generalize aH s x=r at *
  clear f a e;refine gV ?_;exact zW
def fC:Sta:=⟨⟨[],[],0,0⟩,0,1,[],[],[]⟩
def aA0(L:List Cmd)(c:L.length<=1000000)(a:Sta->List Cmd->Prop)(d:∀ s x l,a s (x::l)->jA s x (aH s x)/\a (aH s x).1 l)(b:a fC L):
  aq 13 [.slice 15 (cmv L) .no] [] (.ret (.tup [(kN L fC []).1.av,.slice 1 (iv (kN L fC []).2) .no])) []:=by
 have h:=X5 L c a d (kN L fC []) L.length 0 fC [] o_ s_ (by rw [Cg];exact b) (by rw [Cg]);have e:=IJ;generalize kN L fC []=R at *
 refine cT (E:=(Eo [5] [])) (fn:=Tryz.f13) (g:=.pure _) λ_=>?_;exact zW
def B0{f:Rn->Int}(q:Rn->Bool):∀ {l:a6},(∀ x∈l,0<=f x)->cF ((l.filter q).map f)<=cF (l.map f)
 | [],_=>Dd _
 | x::l,h=>by
  have d:=B0 q (l:=l) λ y b=>h y (Bb _ b);have c:=h x (Ar ..);have e:cF ((x::l).map f)=f x+cF (l.map f):=rfl;by_cases a:q x=true
  .rw [Fl a,e];show f x+cF _<=_;omega
  .rw [Fk a,e];omega
def LF{f:Rn->Int}{x:Rn}:∀ {l:a6},cF ((l++[x]).map f)=cF (l.map f)+f x
 | []=>by show f x+0=0+f x;omega
 | y::l=>by show f y+cF ((l++[x]).map f)=f y+cF (l.map f)+f x;rw [LF];omega
def OY{c:Con}{free:a8}{g:Gan}{hs:aw}:qP c free g hs=true↔(hs.length:Int)=g.pods/\(∃ G∈gpL c g.lev,∀ u∈hs,u∈G)/\∀ u∈hs,0<=u/\u<(free.length:Int)/\((hs.count u:Nat):Int)<=eK ((free[u.toNat]?).getD V3.zero) g.need:=by
 constructor
 .intro h;obtain ⟨h1,f⟩:=KF h;refine ⟨h1,?_,f⟩;unfold qP at h;rw [if_pos h1,Fj] at h;obtain ⟨G,i,h⟩:=h;unfold chkG at h;rw [Ad] at h;exact ⟨G,i,uY.1 h.1⟩
 .intro ⟨h1,⟨G,i,f⟩,h3⟩;unfold qP;rw [if_pos h1,Fj];refine ⟨G,i,?_⟩;unfold chkG;rw [uY.2 f,Dc];unfold DR;rw [Ct];intro u j;obtain ⟨a,b,d⟩:=h3 u j;unfold aDq;rw [if_neg q_,if_neg q_];have e:AR u hs=((hs.count u:Nat):Int):=by unfold AR;rw [yO];omega
  rw [e];simp;omega
def aBk{free need:V3}{n:Int}(f:bI need=true)(h1:1<=n)(e:n<=16):n<=eK free need↔need.a*n<=free.a/\need.b*n<=free.b/\need.c*n<=free.c:=by
 constructor
 .exact sJ f h1
 .intro ⟨a,b,d⟩;obtain ⟨i,k,hd⟩:=cB f;have key:∀ x y:Int,0<=x->x*n<=y->x<=y:=λ x y j h=>by have:x*1<=x*n:=Kj h1 j;omega
  have g:cQ need free=true:=FM.2 ⟨key _ _ i.1 a,key _ _ k.1 b,key _ _ hd.1 d⟩;exact (UC f g n).2 ⟨e,a,b,d⟩
structure am(g:Gan):Prop where
 v:bI g.need=true
 pods:1<=g.pods/\g.pods<=16
 lev:0<=g.pref/\g.pref<=g.lev/\g.lev<=3
 run:1<=g.run/\g.run<=1048576
 id:1<=g.id
def iB{c:Con}{g:Gan}(h:eQ c g=0):am g:=by obtain ⟨h1,_⟩:=oH.1 h;unfold KK at h1;simp only [Ad,decide_eq_true_eq] at h1;exact ⟨h1.2.1,by omega,by omega,by omega,by omega⟩
def sB(p:V3->Int)(c:Con)(l:a6):Prop:=∀ j:Nat,j<c.hs.length->cF (l.map (vL p (j:Int)))<=p (bH c.hs (j:Int)).c
def aJk(c:Con)(r:Rn):Prop:=(r.hs.length:Int)=r.g.pods/\(∃ G∈gpL c r.g.lev,∀ u∈r.hs,u∈G)/\∀ u∈r.hs,0<=u/\u<(c.hs.length:Int)
structure HstOK(c:Con)(l:a6):Prop where
 a:sB V3.a c l
 b:sB V3.b c l
 d:sB V3.c c l
def sB.filter{p:V3->Int}{c:Con}{l:a6}(q:Rn->Bool)(d:∀ v,bI v=true->0<=p v)(a:∀ x∈l,am x.g)(h:sB p c l):sB p c (l.filter q):=λ j e=>
 Fe (B0 q λ x b=>Ky (d _ (a x b).v) o_) (h j e)
def HstOK.filter{c:Con}{l:a6}(q:Rn->Bool)(f:∀ x∈l,am x.g)(h:HstOK c l):HstOK c (l.filter q):=
 ⟨h.a.filter q (λ_ e=>(cB e).1.1) f,h.b.filter q (λ_ e=>(cB e).2.1.1) f,h.d.filter q (λ_ e=>(cB e).2.2.1) f⟩
def aLG{c:Con}{l:a6}(C:bS c=0)(o:∀ x∈l,am x.g)(hd:(l.map λ x=>x.g.id).Nodup)(k:HstOK c l){r:Rn}(n:r∈l)(hp:aJk c r):qP c (jZ c (l.filter λ x=>!(x.g.id==r.g.id))) r.g r.hs=true:=by
 obtain ⟨A,y,B⟩:=hp;refine OY.2 ⟨A,y,λ u s=>?_⟩;obtain ⟨F,t⟩:=B u s;rw [wQ];refine ⟨F,t,?_⟩;have q:=o r n;have m:0<r.hs.count u:=Lb.2 s;have w:r.hs.count u<=r.hs.length:=Mp;have D:=q.pods;refine (aBk q.v o_ o_).2 ?_
 obtain ⟨j,rfl⟩:∃ j:Nat,u=(j:Int):=⟨u.toNat,by omega⟩
 have i:j<c.hs.length:=o_;have key:∀ p:V3->Int,Prj p->(∀ v,bI v=true->0<=p v/\p v<=1048576)->sB p c l->p r.g.need*((r.hs.count (j:Int):Nat):Int)<=p (((jZ c (l.filter λ x=>!(x.g.id==r.g.id)))[(j:Int).toNat]?).getD V3.zero):=λ p hp h hs=>by rw [Bn,VN hp (λ j i=>h _ (SY C i)) (λ x z=>h _ (o x (Fg.1 z).1).v) i];have h1:=hs j i;rw [TW (f:=vL p (j:Int)) n hd] at h1;have e:vL p (j:Int) r=p r.g.need*((r.hs.count (j:Int):Nat):Int):=rfl;rw [<-e];omega
 exact ⟨key _ aGk (λ_ h=>(cB h).1) k.a,key _ aGj (λ_ h=>(cB h).2.1) k.b,key _ aGi (λ_ h=>(cB h).2.2) k.d⟩
def sB.more{p:V3->Int}{c:Con}{l:a6}{x:Rn}(hp:Prj p)(o:bS c=0)(d:∀ v,bI v=true->0<=p v/\p v<=1048576)(k:∀ free need (n:Int),bI need=true->1<=n->n<=eK free need->p need*n<=p free)(m:∀ y∈l,am y.g)(a:am x.g)
  (f:∀ u∈x.hs,((x.hs.count u:Nat):Int)<=eK (((jZ c l)[u.toNat]?).getD V3.zero) x.g.need) (h:sB p c l):sB p c (l++[x]):=by
 intro j b;rw [LF];have q:=h j b;have e:vL p (j:Int) x=p x.g.need*((x.hs.count (j:Int):Nat):Int):=rfl;by_cases hm:(j:Int)∈x.hs
 .have i:0<x.hs.count (j:Int):=Lb.2 hm;have h1:=k _ _ _ a.v o_ (f _ hm);rw [Bn,VN hp (λ j b=>d _ (SY o b)) (λ x a=>d _ (m x a).v) b,<-e] at h1;have hz:0<=vL p (j:Int) x:=Ky (d _ a.v).1 o_;unfold dC at h1;omega
 .rw [e,Kz.2 hm];simp;omega
def HstOK.more{c:Con}{l:a6}{x:Rn}(k:bS c=0)(j:∀ y∈l,am y.g)(m:am x.g)(f:∀ u∈x.hs,((x.hs.count u:Nat):Int)<=eK (((jZ c l)[u.toNat]?).getD V3.zero) x.g.need)(h:HstOK c l):HstOK c (l++[x]):=
 ⟨h.a.more aGk k (λ_ e=>(cB e).1) (λ_ _ _ e h1 i=>(sJ e h1 i).1) j m f,h.b.more aGj k (λ_ e=>(cB e).2.1) (λ_ _ _ e h1 i=>(sJ e h1 i).2.1) j m f,h.d.more aGi k (λ_ e=>(cB e).2.2) (λ_ _ _ e h1 i=>(sJ e h1 i).2.2) j m f⟩
def tP(c:Con)(l:a6):Prop:=∀ i:Nat,i<c.ns.length->cQ (atV (ofL c l) (i:Int)) (qD c (i:Int))=true
def aGa{s:Sta}:L8 s=true↔tP s.c s.run:=by unfold L8 tP;rw [Ct];exact ⟨λ h i a=>h i (Jg.2 a),λ h i a=>h i (Jg.1 a)⟩
def am.dem{g:Gan}(h:am g):(dem g).pos:=aIh h.v ⟨by have:=h.pods;omega,h.pods.2⟩
def tP.filter{c:Con}{l:a6}(q:Rn->Bool)(a:∀ x∈l,am x.g)(h:tP c l):tP c (l.filter q):=λ i d=>
 vC.2 ((aGt (λ x b=>(a x b).dem) q (i:Int)).2.1.trans (vC.1 (h i d)))
def tP.more{c:Con}{l:a6}{x:Rn}(j:∀ y∈l,am y.g)(m:am x.g)(hm:M9 c (ofL c l) x.g.ten (Go.Proofs.YtbpccabomgalhaaGreatDoor.dem x.g)=true)(hl:bC c.ns x.g.ten=true)(h:tP c l):tP c (l++[x]):=by
 intro i f;by_cases hp:(i:Int)∈fF c.ns x.g.ten
 .have h1:=(L7 (λ y k=>(j y k).dem) m.dem hm _ hp).2;have e:UT c x.g.ten (i:Int)=qD c (i:Int):=by
   unfold UT qD;by_cases b:(i:Int)=x.g.ten
   .rw [if_pos b,b,if_pos hl]
   .rw [if_neg b,if_neg];intro d;unfold fF at hp;rw [Ij] at hp;exact b (UZ d hp)
  rw [<-e];exact h1
 .have e:atV (ofL c (l++[x])) (i:Int)=atV (ofL c l) (i:Int):=by
   have a:c.ok (i:Int):=⟨by omega,by simpa using f⟩
   rw [zO a,zO a,Ji];show oX c _ _ x=_;unfold oX;rw [if_neg];intro n;exact hp (by unfold fF;rw [Ij];simpa using n.2)
  rw [e];exact h i f
def F9:∀ {l ns:bb} {i:Nat},kD ns i l=true->∀ k (h:k<l.length),oC (rlB ns ((i+k:Nat):Int)) (i+k) l[k]=true
 | [],_,_,_,k,h=>absurd h (Nat.not_lt_zero _)
 | x::l,ns,i,h0,k,h=>by
  unfold kD at h0;by_cases a:oC (rlB ns i) i x=true
  .rw [if_pos a] at h0;cases k with
   | zero=>exact a
   | succ k=>
    have:=F9 h0 k (by simpa using h);rw [show i+1+k=i+(k+1) from by omega] at this;exact this
  .rw [if_neg a] at h0;cases h0
def AA{c:Con}(h:bS c=0):AK c/\kD c.ns 0 c.ns=true/\c.hs.all lR=true:=by
 unfold bS at h;split at h
 .split at h
  .split at h
   .exact ⟨by assumption,by assumption,by assumption⟩
   .omega
  .omega
 .omega
def FN{v:V3}(h:bI v=true):v.pos:=by obtain ⟨a,b,d⟩:=cB h;exact ⟨a.1,b.1,d.1⟩
def MY{c:Con}(h:bS c=0){i:Nat}(f:i<c.ns.length):(cX c.ns (i:Int)).n.pos/\(cX c.ns (i:Int)).b.pos:=by
 have h1:=F9 (AA h).2.1 i f;have e:cX c.ns (i:Int)=c.ns[i]:=by unfold cX;rw [Bn,Aa f];rfl
 rw [e];unfold oC at h1;have d:∀ v:V3,zB v=true->v.pos:=λ v a=>by unfold zB at a;simp at a;exact ⟨by omega,by omega,by omega⟩
 split at h1
 .cases h1
 .split at h1
  .simp only [Ad] at h1;exact ⟨FN h1.1,FN h1.2.1⟩
  .simp only [Ad] at h1;exact ⟨d _ h1.1,d _ h1.2.1⟩
def aBJ{c:Con}(h:bS c=0):tP c []:=by
 intro i k
 have f:c.ok (i:Int):=⟨by omega,by simpa using k⟩
 rw [zO f];have hs:∀ p:V3->Int,Prj p->(∀ v:V3,v.pos->0<=p v)->0<=p (qD c (i:Int)):=λ p hp j=>by
  have b:0<=p (lE c.ns (i:Int) (qI c.ns))/\p (lE c.ns (i:Int) (qI c.ns))<=dC:=by
   unfold lE;have hz:=hp.zero;have a:∀ e∈(bP c.ns (i:Int)).map λ t=>p (atV (qI c.ns) t),0<=e:=λ e l=>by
    obtain ⟨t,m,rfl⟩:=Bq.1 l;have g:=kZ c (i:Int) t m;rw [aCc g];have d:t=(t.toNat:Int):=by have:=g.1;omega
    rw [d];exact j _ (MY h g.2).1
   rw [IK hp,hz,vS (Dd _) d_ a];have:=lF a;unfold dC;omega
  unfold qD;split
  .rw [hp.add];have h1:=j _ (MY h k).2;rw [sA b.1 b.2 h1];unfold dC;omega
  .exact b.1
 exact vC.2 ⟨hs _ aGk λ_ h=>h.1,hs _ aGj λ_ h=>h.2.1,hs _ aGi λ_ h=>h.2.2⟩
def Y0{c:Con}{free:a8}{g:Gan}(A:1<=g.pods)(hl:0<=g.pref/\g.pref<=g.lev/\g.lev<=3){x:Int×aw}(h:zX c free g=some x):(bH c.hs (x.2.headD 0)).f=x.1:=by
 have d:∀ (j:List aw),fdG c free g j=some x->∃ a∈j,x=((bH c.hs (a.headD 0)).f,inL free g a)/\¬ ((inL free g a).length:Int)<g.pods:=λ j=>by
  induction j with
  | nil=>intro h;cases h
  | cons a r k=>
   intro h;unfold fdG at h;by_cases h1:((inL free g a).length:Int)<g.pods
   .rw [if_pos (decide_eq_true h1)] at h;obtain ⟨q,o,p⟩:=k h;exact ⟨q,Bb _ o,p⟩
   .rw [if_neg (by rw [decide_eq_false h1];decide)] at h;cases h;exact ⟨a,Ar ..,rfl,h1⟩
 have e:∀ (n:Nat) (lv:Int),fdL c free g n lv=some x->∃ b,lv<=b/\b<lv+n/\fdG c free g (gpL c b)=some x:=λ n=>by
  induction n with
  | zero=>intro lv h;cases h
  | succ n k=>
   intro lv h;unfold fdL at h;cases i:fdG c free g (gpL c lv) with
   | some y=>
    rw [i] at h;cases h;exact ⟨lv,Dd _,by omega,i⟩
   | none=>
    rw [i] at h;obtain ⟨b,o,p,v⟩:=k (lv+1) h;exact ⟨b,by omega,by omega,v⟩
 unfold zX at h;obtain ⟨b,l1,l2,z⟩:=e _ _ h;obtain ⟨a,w,rfl,m⟩:=d _ z;have l:(inL free g a).headD 0∈a:=by
  have hm:(inL free g a).headD 0∈inL free g a:=by
   cases i:inL free g a with
   | nil=>rw [i] at m;simp at m;omega
   | cons y t=>exact Ar ..
  rcases Q7 a [] _ hm with h | h
  .cases h
  .exact h.1
 obtain ⟨_,u⟩:=JR (c:=c) (lv:=b) o_ o_;have s:=(KP o_ o_).1 ((u a w).2.2 _ l).2.2;unfold qK ofK at s;exact (List.cons.inj s).1.symm
abbrev Srt(l:a7):Prop:=l.Pairwise λ a b=>a.seq<b.seq
structure RunP(c:Con)(now:Int)(l:a6):Prop where
 time:∀ r∈l,r.at'<=r.st/\r.st<=now/\now<dG r/\(bH c.hs (r.hs.headD 0)).f=r.fl
 plc:∀ r∈l,aJk c r
 hst:HstOK c l
 quo:tP c l
def W0(c:Con)(nxt now:Int)(x:Pn):Prop:=eQ c x.g=0/\(cG c [] x.g).isNone=false/\(0<=x.seq/\x.seq<nxt)/\0<=x.at'/\x.at'<=now
structure OkS(s:Sta):Prop where
 head:fY s.c=true\/bS s.c=0
 now:0<=s.now/\s.now<=1099511627776
 nxt:1<=s.nxt/\s.nxt<=1099511627776
 hist:s.hist.length=s.c.ns.length
 few:s.pend.length+s.run.length<=32
 row:Srt s.pend
 gang:∀ x∈s.pend++s.run.map Rn.pn,W0 s.c s.nxt s.now x
 ids:((s.pend++s.run.map Rn.pn).map λ x=>x.g.id).Nodup
 seqs:((s.pend++s.run.map Rn.pn).map λ x=>x.seq).Nodup
 run:RunP s.c s.now s.run
def T3{l:a7}:(l.map Pn.q).Pairwise (λ a b=>a.seq<b.seq)↔Srt l:=by rw [Fs];exact Nh
def aFW{l:a7}(h:(l.map λ x=>x.g.id).Nodup):aBi l=true↔Srt l:=by
 unfold aBi;rw [Q2.check_good];constructor
 .exact λ g=>T3.1 g.seq
 .refine λ g=>⟨T3.2 g,?_⟩
  rw [Fs];unfold Ld at h;rw [Fs] at h;exact h
def U5(p:Q2.Pend):∀ {l:List Q2.Pend},l.Pairwise (λ a b=>a.seq<b.seq)->(∀ x∈l,x.seq≠p.seq)->(Q2.insP p l).Pairwise (λ a b=>a.seq<b.seq)/\∀ x∈Q2.insP p l,x=p\/x∈l
 | [],_,_=>⟨Iy _ _,λ x c=>.inl (Dh.1 c)⟩
 | y::r,h,hn=>by
  rw [Cr] at h;unfold Q2.insP;by_cases d:p.seq<y.seq
  .rw [if_pos d];refine ⟨Cr.2 ⟨λ z hz=>?_,Cr.2 h⟩,λ x c=>Bc.1 c⟩;rcases Bc.1 hz with rfl | hz
   .exact d
   .have:=h.1 z hz;omega
  .rw [if_neg d];obtain ⟨h1,e⟩:=U5 p h.2 λ x c=>hn x (Bb _ c);have f:=hn y (Ar ..);refine ⟨Cr.2 ⟨λ z hz=>?_,h1⟩,λ x c=>?_⟩
   .rcases e z hz with rfl | hz
    .omega
    .exact h.1 z hz
   .rcases Bc.1 c with rfl | c
    .exact .inr (Ar ..)
    .rcases e x c with rfl | c
     .exact .inl rfl
     .exact .inr (Bb _ c)
def UI{l:a7}{p:Pn}(h:Srt l)(a:∀ x∈l,x.seq≠p.seq):Srt (jV l p):=by refine T3.1 ?_;rw [aBM,Q2.putP_ins];refine (U5 p.q (T3.2 h) λ x c=>?_).1;obtain ⟨y,b,rfl⟩:=Bq.1 c;exact a y b
def LC{l:a7}{a:Int}(h:Srt l):Srt (dN l a):=by
 unfold dN;split
 .exact h
 .exact h.sublist (List.eraseIdx_sublist ..)
structure SizOK(c:Con):Prop where
 ns:c.ns.length<=12
 hs:c.hs.length<=24
 half:0<=c.half/\c.half<=1048576
 age:0<=c.age/\c.age<=1048576
def HG{c:Con}:fY c=true↔c=⟨[],[],0,0⟩:=by obtain ⟨a,b,d,e⟩:=c;unfold fY;simp
def wJ{c:Con}(h:fY c=true\/bS c=0):SizOK c:=by
 rcases h with h | h
 .rw [HG] at h;subst h;exact ⟨by simp,by simp,by decide,by decide⟩
 .have h1:=(AA h).1;unfold AK at h1;exact ⟨by omega,by omega,by omega,by omega⟩
def RT{c:Con}(h:fY c=true)(g:Gan):eQ c g≠0:=by rw [HG] at h;subst h;intro e;have h1:=(oH.1 e).2;unfold bC at h1;simp at h1;omega
def C7{c:Con}(h:fY c=true\/bS c=0){g:Gan}(a:eQ c g=0):bS c=0:=h.resolve_left λ e=>RT e g a
def aKQ(s:Sta):ids s=(s.pend++s.run.map Rn.pn).map λ x=>x.g.id:=by unfold ids;rw [Bk,Dn];rfl
def aFF(s:Sta):seqs s=(s.pend++s.run.map Rn.pn).map λ x=>x.seq:=by unfold seqs;rw [Bk,Dn];rfl
def aBS{s:Sta}{p:Pn}:pnB s p=true↔W0 s.c s.nxt s.now p:=by unfold pnB W0;simp only [Ad,decide_eq_true_eq,Cw]
def KE{s:Sta}(h:OkS s):mH s=true:=by have a:=h.ids;rw [Bk,Cs] at a;unfold mH NW;simp only [Ad,Ew,decide_eq_true_eq,Ct];refine ⟨⟨h.head,h.now,h.nxt,h.hist,h.few⟩,(aFW a.1).2 h.row,⟨λ p hp=>aBS.2 (h.gang p (De _ hp)),λ r b=>?_⟩,by rw [aKQ];exact h.ids,by rw [aFF];exact h.seqs,aGa.2 h.run.quo⟩;have c:=h.gang r.pn (Cv _ (Cc b));refine ⟨aBS.2 c,?_⟩;obtain ⟨e,f,g,i⟩:=h.run.time r b;unfold rnB;simp only [Ad,decide_eq_true_eq];have hd:=a.2.1;rw [Dn] at hd;exact ⟨⟨⟨e,f⟩,g⟩,aLG (C7 h.head c.1) (λ x d=>iB (h.gang x.pn (Cv _ (Cc d))).1) hd h.run.hst b (h.run.plc r b),i⟩
def OkS.base{s:Sta}(h:OkS s):Base s where
 c:=⟨by have:=(wJ h.head).ns;omega,by have:=(wJ h.head).hs;omega⟩
 ids:=h.ids
 seqs:=h.seqs
 few:=by rw [Ah,Cf];have:=h.few;omega
 gang x hx:=by have hn:=iB (h.gang x hx).1;have:=hn.pods;have:=hn.id;exact ⟨by omega,hn.v,by omega⟩
def aAC(s:Sta){l:a7}(h:(l.map λ x=>x.seq).Nodup):Tot (ltP s) l:=by unfold Tot;unfold Ld at h;rw [Fs] at h;exact h.imp λ h=>aGQ s h
def OkS.st{s:Sta}(h:OkS s)(hl:LtF s.hist):StOK s:=by
 have hz:=wJ h.head;have h1:=hz.ns;have j:=hz.hs;have h3:=hz.half;have k:=hz.age;have l:=h.hist;have i:=h.few;have f:=h.nxt
 have b:Sm s.run:=⟨by omega,λ x d=>by
  have:=(h.run.plc x d).1;have:=(iB (h.gang x.pn (Cv _ (Cc d))).1).pods;have e:x.pn.g=x.g:=rfl;rw [e] at this
  omega⟩
 have a:=h.seqs;rw [Bk,Cs] at a;exact ⟨h.base.c,⟨h.base,⟨by omega,by omega,by omega,b,by omega⟩,⟨h.base.c,h1,hl,by omega,h.now,by omega⟩,λ p hp=>(h.gang p (De _ hp)).2.2.2.1,aAC s a.1⟩,by omega,by omega⟩
def RunP.filter{c:Con}{now:Int}{l:a6}(q:Rn->Bool)(b:∀ x∈l,am x.g)(h:RunP c now l):RunP c now (l.filter q):=
 ⟨λ r a=>h.time r (Fg.1 a).1,λ r a=>h.plc r (Fg.1 a).1,h.hst.filter q b,h.quo.filter q b⟩
def OkS.needs{s:Sta}(h:OkS s):∀ x∈s.run,am x.g:=λ x a=>iB (h.gang x.pn (Cv _ (Cc a))).1
def OkS.part{s:Sta}(h:OkS s){pend:a7}{run:a6}{rest:a7}(hp:((pend++run.map Rn.pn)++rest).Perm (s.pend++s.run.map Rn.pn))(hs:Srt pend)(hr:RunP s.c s.now run):OkS {s with pend:=pend,run:=run} where
 head:=h.head
 now:=h.now
 nxt:=h.nxt
 hist:=h.hist
 few:=by have h1:=hp.length_eq;have h2:=h.few;simp only [Ah,Cf] at h1;show pend.length+run.length<=32;omega
 row:=hs
 gang x hx:=h.gang x (hp.mem_iff.1 (De _ hx))
 ids:=by have h1:=((hp.map λ x=>x.g.id).nodup_iff).2 h.ids;rw [Bk,Cs] at h1;exact h1.1
 seqs:=by have h1:=((hp.map λ x=>x.seq).nodup_iff).2 h.seqs;rw [Bk,Cs] at h1;exact h1.1
 run:=hr
def DV{α:Type}(q:α->Bool):∀ (l:List α),(l.filter q++l.filter λ x=>!q x).Perm l
 | []=>Jf _
 | x::l=>by
  have b:=DV q l;by_cases a:q x=true
  .rw [Fl a,Fk (by rw [a];decide)];exact b.cons x
  .rw [Fk a,Fl (by simpa using a)];exact Eh.trans (b.cons x)
def OkS.wo{s:Sta}(h:OkS s)(q:Rn->Bool):OkS {s with run:=s.run.filter q}:=by refine h.part (pend:=s.pend) (run:=s.run.filter q) (rest:=(s.run.filter λ x=>!q x).map Rn.pn) ?_ h.row (h.run.filter q h.needs);rw [Ae,<-Bk];exact Du _ ((DV q s.run).map _)
def OkS.take{s:Sta}(h:OkS s)(a:Int):OkS {s with pend:=dN s.pend a}:=by
 have b:=h.run;rcases BC a s.pend with ⟨_,e⟩ | ⟨A,p,B,c,f,d⟩
 .have:dN s.pend a=s.pend:=by unfold dN;rw [if_pos o_]
  rw [this];exact h
 .have e:dN s.pend a=A++B:=by unfold dN;rw [if_neg o_,d,c];show (A++p::B).eraseIdx A.length=_;rw [Ja (Bf _),Md];rfl
  refine h.part (pend:=dN s.pend a) (run:=s.run) (rest:=[p]) ?_ (LC h.row) b;rw [e,c];refine Dv.trans ?_;show (p::((A++B)++_)).Perm _;rw [Ae,Ae];exact Eh.symm
structure RK(s:Sta)(r:Rd):Prop where
 row:Srt r.s.pend
 run:RunP s.c s.now r.s.run
def ai.gangA{s:Sta}{r:Rd}{rest:a7}(o:OkS s)(h:ai s r rest):∀ x∈r.s.pend++r.s.run.map Rn.pn,W0 s.c s.nxt s.now x:=λ x a=>o.gang x (h.perm.mem_iff.1 a)
def ai.needs{s:Sta}{r:Rd}{rest:a7}(o:OkS s)(h:ai s r rest):∀ x∈r.s.run,am x.g:=λ x a=>iB (h.gangA o x.pn (Cv _ (Cc a))).1
def RK.adm{s:Sta}{r:Rd}{p:Pn}{rest:a7}(o:OkS s)(h:ai s r (p::rest))(k:RK s r){x:Int×aw}(e:cG r.s.c r.s.run p.g=some x):RK s (PL r p x.1 x.2):=by
 have hp:=h.gangA o p (De _ (h.sub p (Ar ..)));have d:=iB hp.1;have m:=C7 o.head hp.1;rw [h.c] at e;unfold cG at e;split at e
 .rename_i hm;obtain ⟨t,q⟩:=aDs d.v d.pods.1 d.lev e;have j:=Y0 d.pods.1 d.lev e;obtain ⟨n,l,i⟩:=OY.1 q;have b:=h.needs o;refine ⟨LC k.row,⟨λ y a=>?_,λ y a=>?_,?_,?_⟩⟩
  .rcases Az.1 a with a | a
   .exact k.run.time y a
   .rw [Dh.1 a];have:=hp.2.2.2;have:=d.run;have:=o.now;refine ⟨by show p.at'<=r.s.now;rw [h.now];omega,by show r.s.now<=s.now;rw [h.now];omega,?_,j⟩;have w:=h.now;unfold dG;dsimp only;split
    .omega
    .split<;>omega
  .rcases Az.1 a with a | a
   .exact k.run.plc y a
   .rw [Dh.1 a];exact ⟨n,l,λ u f=>by have:=i u f;rw [wQ] at this;exact ⟨this.1,this.2.1⟩⟩
  .exact k.run.hst.more m b d λ u f=>(t u f).2.2
  .exact k.run.quo.more b d hm (oH.1 hp.1).2
 .cases e
def N6(run:a6):∀ (ids:aw) (r:Rd),Srt r.s.pend->((ids.map (λ id=>(xOf run id).pn)++r.s.pend).map λ x=>x.seq).Nodup->Srt (ids.foldl (dT run) r).s.pend
 | [],_,h,_=>h
 | id::ids,r,h,hn=>by
  rw [Ba];have hp:=xQ r.s.pend (xOf run id).pn;rw [Bl,Ca,Bl,Bx] at hn;refine N6 run ids (dT run r id) (UI h λ x a e=>hn.1 ?_) ?_
  .have e:x.seq=(xOf run id).pn.seq:=e;rw [<-e];exact Cc (Cv _ a)
  .have h1:(ids.map (λ id=>(xOf run id).pn)++(dT run r id).s.pend).Perm ((xOf run id).pn::(ids.map (λ id=>(xOf run id).pn)++r.s.pend)):=(Du _ hp).trans Eh;refine ((h1.map λ x=>x.seq).nodup_iff).2 ?_;rw [Bl,Bx];exact hn
def RK.evic{s:Sta}{r:Rd}{rest:a7}(o:OkS s)(h:ai s r rest)(k:RK s r){ids:aw}(b:ids.Nodup)(a:∀ id∈ids,0<=aQ (bU id) r.s.run 0):RK s (mW r ids):=by
 refine ⟨N6 r.s.run ids r k.row ?_,k.run.filter _ (h.needs o)⟩;have h1:=(ML (h.once o.base) b a).map Rn.pn;rw [Bk,Dn] at h1;have c:((ids.map (λ id=>(xOf r.s.run id).pn)++r.s.pend)++(aE r.s.run ids).map Rn.pn).Perm (s.pend++s.run.map Rn.pn):=by refine Mk ?_ h.perm;refine (Dq _ Dv).trans ?_;rw [Ae];exact Du _ h1
 have h3:=((c.map λ x=>x.seq).nodup_iff).2 o.seqs;rw [Bk,Cs] at h3;exact h3.1
def RK.admR{s:Sta}{r:Rd}{p:Pn}{rest:a7}(o:OkS s)(h:ai s r (p::rest))(k:RK s r):RK s (Go.Proofs.YtbpccabomgalhaaGreatDoor.admR r p).1:=by
 unfold Go.Proofs.YtbpccabomgalhaaGreatDoor.admR;cases a:cG r.s.c r.s.run p.g with
 | none=>exact k
 | some x=>
  obtain ⟨fl,hs⟩:=x;unfold FE;dsimp only;split
  .exact k
  .exact k.adm o h a
def RK.look{s:Sta}{r:Rd}{p:Pn}{rest:a7}(o:OkS s)(h:ai s r (p::rest))(k:RK s r):RK s (cO r p):=by
 unfold cO;split
 .exact k.admR o h
 .rename_i i;split
  .exact k
  .rename_i j;have a:r.head=false:=by cases b:r.head with | false=>rfl | true=>exact absurd b j
   have d:cG r.s.c r.s.run p.g=none:=by
    cases l:cG r.s.c r.s.run p.g with
    | none=>rfl
    | some x=>
     obtain ⟨fl,hs⟩:=x;refine absurd ?_ i;unfold Go.Proofs.YtbpccabomgalhaaGreatDoor.admR;rw [l];unfold FE;dsimp only;rw [a];rfl
   cases b:gI r.s.c r.s.run p.g with
   | none=>
    show RK s (pE r p _);cases tW r.s.c r.s.now r.s.run p.g with
    | none=>exact k
    | some n=>exact ⟨k.row,k.run⟩
   | some ids=>
    obtain ⟨_,f,_,e,_⟩:=yQ o.base h d b;exact (k.evic o h f e).admR o (h.evic o.base f e)
def F1{s:Sta}(o:OkS s):∀ (L:a7) (r:Rd),KR s r L->RK s r->RK s (L.foldl cO r)
 | [],_,_,k=>k
 | p::L,r,h,k=>F1 o L (cO r p) (xN o.base r p L h) (k.look o h.1)
def OkS.round{s:Sta}(o:OkS s)(hl:LtF s.hist):OkS (pC s).s:=by
 have hst:=(o.st hl).run.start;have h1:=(B5 o.base (CO s) _ hst).1;have f:=F1 o (CO s) _ hst ⟨o.row,o.run⟩;have e:(pC s).s={s with pend:=(pC s).s.pend,run:=(pC s).s.run}:=by have a:=h1.c;have b:=h1.now;have c:=h1.nxt;have d:=h1.hist;change (pC s).s.c=s.c at a;change (pC s).s.now=s.now at b;change (pC s).s.nxt=s.nxt at c;change (pC s).s.hist=s.hist at d;rw [<-a,<-b,<-c,<-d]
 rw [e];refine o.part (rest:=[]) ?_ f.row f.run;rw [Au];exact h1.perm
def QA{s:Sta}(o:OkS s)(hl:LtF s.hist):(pC s).s.hist=s.hist/\(pC s).s.nxt=s.nxt/\(pC s).s.c=s.c/\(pC s).s.now=s.now:=by have h1:=(B5 o.base (CO s) _ (o.st hl).run.start).1;exact ⟨h1.hist,h1.nxt,h1.c,h1.now⟩
def aJD(h b:az)(n half:Int):LtF (tkL h b n half):=by
 unfold tkL;have key:∀ (l:az) (i:Nat),LtF (dW (tkS b n half) l i):=λ l=>by
  induction l with
  | nil=>intro i x a;cases a
  | cons y l c=>
   intro i x a;rcases Bc.1 a with rfl | a
   .unfold tkS;split
    .exact WZ _ _
    .exact JE _ _
   .exact c (i+1) x a
 exact key h 0
def OkS.tick{s:Sta}(o:OkS s)(n:Int):OkS (kL s n).1/\(kL s n).1.nxt=s.nxt:=by
 unfold kL;split
 .exact ⟨o,rfl⟩
 .split
  .exact ⟨o,rfl⟩
  .have c:=o.wo λ x=>decide (s.now+n<dG x);have g:=o.now;refine ⟨⟨c.head,⟨by show 0<=s.now+n;omega,by show s.now+n<=_;omega⟩,c.nxt,?_,c.few,c.row,λ x i=>?_,c.ids,c.seqs,⟨λ r h=>?_,c.run.plc,c.run.hst,c.run.quo⟩⟩,rfl⟩
   .show (tkL _ _ _ _).length=_;unfold tkL;rw [oL];exact o.hist
   .obtain ⟨a,b,d,e,f⟩:=c.gang x i;exact ⟨a,b,d,e,by show x.at'<=s.now+n;have f:x.at'<=s.now:=f;omega⟩
   .obtain ⟨a,b,d,e⟩:=c.run.time r h;have hd:=(Fg.1 h).2;exact ⟨a,by show r.st<=s.now+n;have b:r.st<=s.now:=b;omega,of_decide_eq_true hd,e⟩
def OkS.conf{s:Sta}(o:OkS s){c:Con}(d:bS c=0)(h:¬ 0<s.pend.length+s.run.length):OkS {s with c:=c,hist:=Aj c.ns.length 0}:=by have hp:s.pend=[]:=Ck.1 o_;have b:s.run=[]:=Ck.1 o_;obtain ⟨g,now,nxt,pend,run,hist⟩:=s;dsimp only at hp b;subst hp b;refine ⟨.inr d,o.now,o.nxt,by simp,by simp,Li,λ x e=>(by cases e),Hj,Hj,⟨λ r b=>(by cases b),λ r b=>(by cases b),?_,aBJ d⟩⟩;have key:∀ p:V3->Int,(∀ v,bI v=true->0<=p v)->sB p c []:=λ p a j f=>a _ (SY d f);exact ⟨key _ λ_ a=>(cB a).1.1,key _ λ_ a=>(cB a).2.1.1,key _ λ_ a=>(cB a).2.2.1⟩
def Y2{a:Int}{l:a7}(h:iW a l<0):∀ p∈l,p.g.id≠a:=by
 rcases BC a l with ⟨h1,_⟩ | ⟨A,p,B,_,_,h1⟩
 .exact h1
 .omega
def OkS.submit{s:Sta}(o:OkS s)(m:s.nxt<1099511627776)(g:Gan):OkS (fM s g).1/\(fM s g).1.nxt<=s.nxt+1/\s.nxt<=(fM s g).1.nxt:=by
 unfold fM;iterate 4 (split;· exact ⟨o,by show s.nxt<=s.nxt+1;omega,Dd _⟩)
 rename_i h1 n h3 p;have h1:eQ s.c g=0:=Fa.1 h1;refine ⟨?_,Dd _,by show s.nxt<=s.nxt+1;omega⟩;have hp:=xQ s.pend ⟨g,s.nxt,s.now⟩;have h:(jV s.pend ⟨g,s.nxt,s.now⟩++s.run.map Rn.pn).Perm (⟨g,s.nxt,s.now⟩::(s.pend++s.run.map Rn.pn)):=Dq _ hp;have i:=o.now;have k:=o.nxt;refine ⟨o.head,o.now,⟨by show 1<=s.nxt+1;omega,by show s.nxt+1<=_;omega⟩,o.hist,?_,UI o.row λ x f e=>?_,λ x f=>?_,?_,?_,o.run⟩
 .have:=hp.length_eq;rw [Al] at this;show (jV s.pend _).length+s.run.length<=32;omega
 .have:=(o.gang x (De _ f)).2.2.1;have e:x.seq=s.nxt:=e;omega
 .rcases Bc.1 (h.mem_iff.1 f) with rfl | f
  .refine ⟨h1,by cases l:(cG s.c [] g).isNone with | true=>exact absurd l h3 | false=>rfl,⟨by show 0<=s.nxt;omega,by show s.nxt<s.nxt+1;omega⟩,i.1,Dd _⟩
  .obtain ⟨a,b,d,e⟩:=o.gang x f;exact ⟨a,b,⟨d.1,by show x.seq<s.nxt+1;omega⟩,e⟩
 .refine ((h.map λ x=>x.g.id).nodup_iff).2 (Bx.2 ⟨λ hm=>?_,o.ids⟩);obtain ⟨x,f,e⟩:=Bq.1 hm;have e:x.g.id=g.id:=e;rcases Az.1 f with f | f
  .exact Y2 o_ x f e
  .obtain ⟨r,j,rfl⟩:=Bq.1 f;have:=DT s.run 0 r j e;omega
 .refine ((h.map λ x=>x.seq).nodup_iff).2 (Bx.2 ⟨λ hm=>?_,o.seqs⟩);obtain ⟨x,f,e⟩:=Bq.1 hm;have:=(o.gang x f).2.2.1;have e:x.seq=s.nxt:=e;omega
structure OkT(s:Sta):Prop where
 ok:OkS s
 lt:LtF s.hist
def OkT.apply{s:Sta}(o:OkT s)(b:s.nxt<1099511627776)(x:Cmd):OkT (aH s x).1/\(aH s x).1.nxt<=s.nxt+1/\s.nxt<=(aH s x).1.nxt:=by
 have same:OkT s/\s.nxt<=s.nxt+1/\s.nxt<=s.nxt:=⟨o,by omega,Dd _⟩
 unfold aH;split
 .exact same
 split
 .split
  .exact same
  .rename_i e;split
   .exact same
   .rename_i c;refine ⟨⟨o.ok.conf (Fa.1 e) c,λ y d=>?_⟩,same.2⟩;have:=List.eq_of_mem_replicate d;omega
 split
 .obtain ⟨h1,a⟩:=o.ok.submit b x.g;refine ⟨⟨h1,?_⟩,a⟩;have:(fM s x.g).1.hist=s.hist:=by
   unfold fM;iterate 4 (split;· rfl)
   rfl
  rw [this];exact o.lt
 split
 .obtain ⟨h1,a⟩:=o.ok.tick x.n;refine ⟨⟨h1,?_⟩,by rw [a];exact same.2⟩;unfold kL;split
  .exact o.lt
  .split
   .exact o.lt
   .exact aJD _ _ _ _
 split
 .obtain ⟨h1,a,_⟩:=QA o.ok o.lt;refine ⟨⟨o.ok.round o.lt,?_⟩,?_⟩
  .show LtF (pC s).s.hist;rw [h1];exact o.lt
  .show (pC s).s.nxt<=_/\_<=(pC s).s.nxt;rw [a];exact same.2
 split
 .exact ⟨⟨o.ok.wo _,o.lt⟩,same.2⟩
 split
 .exact same
 .exact ⟨⟨o.ok.take _,o.lt⟩,same.2⟩
def IG:OkT fC:=by
 refine ⟨⟨.inl d_,by decide,by decide,rfl,by decide,Li,λ x a=>(by cases a),Hj,Hj,⟨λ r b=>(by cases b),λ r b=>(by cases b),⟨?_,?_,?_⟩,?_⟩⟩,λ x a=>(by cases a)⟩
 all_goals exact λ j c=>absurd c (Nat.not_lt_zero _)
def two(a:Int)(b:Int)(x:Rn):Bool:=!((x.g.id==a)||(x.seq==b))
structure FairP(s:Sta):Prop where
 few:aNW s.c s.now s.run=1
 pend:s.pend.length<=32
 row:aBi s.pend=true
 hist:s.hist.length=s.c.ns.length
 gang:∀ p∈s.pend,aI6 s.c.ns p.g≠0/\0<=p.at'/\p.at'<=s.now
 two:∀ p∈s.pend,∀ x∈s.run,x.g.id≠p.g.id/\x.seq≠p.seq
 once:s.run.Pairwise λ a b=>a.g.id≠b.g.id/\a.seq≠b.seq
structure FairS(s:Sta):Prop where
 siz:SizOK s.c
 chk:fY s.c=true\/bS s.c=0
 now:0<=s.now/\s.now<=1099511627776
 nxt:1<=s.nxt/\s.nxt<=1099511627776
 few:s.pend.length+s.run.length<=32
 hist:s.hist.length=s.c.ns.length
 row:Srt s.pend
 ids:((s.pend++s.run.map Rn.pn).map λ x=>x.g.id).Nodup
 seqs:((s.pend++s.run.map Rn.pn).map λ x=>x.seq).Nodup
 need:∀ x∈s.pend++s.run.map Rn.pn,am x.g
 at':∀ p∈s.pend,0<=p.at'/\p.at'<=s.now
 hs:∀ x∈s.run,x.hs.length<=16
def Ev.eqb(x y:Ev):Bool:=(x.k==y.k)&&((x.id==y.id)&&((x.n==y.n)&&true))
def Pn.eqb(x y:Pn):Bool:=(x.g.id==y.g.id)&&((x.g.ten==y.g.ten)&&((x.g.pods==y.g.pods)&&((x.g.need.a==y.g.need.a)&&((x.g.need.b==y.g.need.b)&&((x.g.need.c==y.g.need.c)&&((x.g.run==y.g.run)&&((x.g.lev==y.g.lev)&&((x.g.pref==y.g.pref)&&((x.seq==y.seq)&&((x.at'==y.at')&&true))))))))))
def zA:V3:=⟨4,4,4⟩
def aL1(n:Int):Cmd:=⟨5,aEg,Gan.zero,n⟩
def OkL(s:Sta)(l:List Cmd):Prop:=OkT s/\s.nxt+(l.length:Int)<=1099511627776/\∀ x∈l,x.k=1->x.c.sm
def MS:∀ s x l,OkL s (x::l)->jA s x (aH s x)/\OkL (aH s x).1 l:=by intro s x l ⟨h1,c,h3⟩;rw [Al] at c;obtain ⟨b,d,e⟩:=h1.apply o_ x;exact ⟨xK s x (h1.ok.st h1.lt) (h3 x (Ar ..)),b,by omega,λ y a=>h3 y (Bb _ a)⟩
def MR{l:List Cmd}(h:l.length<=1000000)(a:∀ x∈l,x.c.sm):OkL fC l:=⟨IG,by show (1:Int)+_<=_;omega,λ x b _=>a x b⟩
open Go.ChangeShapes Go.WideShapes Go.ChangeAt Go.RowKit
set_option maxRecDepth 100000
def aEu{H:Type}(d:DataW H):1<=Rows.uptoBulk d:=by
 cases d with
 | lit l=>cases l<;>simp [Rows.uptoBulk]
 | _=>simp [Rows.uptoBulk]
def yU{H:Type}{d:DataW H}:∀ {l:List (DataW H)},d∈l->Rows.uptoBulk d<=Rows.uptoBulkAll l
 | [],h=>by cases h
 | x::r,h=>by
  simp only [Rows.uptoBulkAll];rcases Bc.1 h with rfl | h
  .omega
  .have:=yU h;omega
def O6{H:Type}:∀ (l:List (DataW H)),l.length<=Rows.uptoBulkAll l
 | []=>by simp
 | x::r=>by have:=aEu x;have:=O6 r;simp only [Rows.uptoBulkAll,Al];omega
def aNE(H:Type)(N:Nat):Bulk H N (λ d=>Rows.uptoBulk d<=N) where
 str l h:=by simp only [Rows.uptoBulk] at h;omega
 sl e r h:=by simp only [Rows.uptoBulk] at h;have:=O6 e;exact ⟨by omega,λ d hd=>by have:=yU hd;omega⟩
 agg l h:=by simp only [Rows.uptoBulk] at h;exact λ d hd=>by have:=yU hd;omega
section
variable {N:Nat}
def aJA{n:Nat}{cs:ax}(h:TyN Tryz.prog N (n+1) 3 cs):∃ m:Int,cs=[ii m]/\ -9223372036854775808<=m/\m<=9223372036854775807:=by unfold TyN at h;rw [Tryz.underlying3] at h;obtain ⟨m,h,h1,a⟩:=h;simp only [bW,aW] at h1 a;exact ⟨m,h,by omega,by omega⟩
def jS{n:Nat}{cs:ax}(h:TyN Tryz.prog N (n+1) 3 cs):∃ m:Int,cs=[ii m]:=by unfold TyN at h;rw [Tryz.underlying3] at h;obtain ⟨m,h,_⟩:=h;exact ⟨m,h⟩
def LB{n:Nat}{cs:ax}(h:TyN Tryz.prog N (n+2) 41 cs):∃ v:V3,cs=v.cs:=by
 unfold TyN at h;rw [Tryz.underlying41] at h;obtain ⟨xs,hl,d,rfl⟩:=h
 match xs,hl,d with
 | [x,y,z],_,d=>
  obtain ⟨a,rfl⟩:=jS (d x s_);obtain ⟨b,rfl⟩:=jS (d y s_);obtain ⟨c,rfl⟩:=jS (d z s_);exact ⟨⟨a,b,c⟩,rfl⟩
def aJC{n:Nat}{cs:ax}(h:TyN Tryz.prog N (n+3) 43 cs):∃ g:Gan,cs=g.cs:=by unfold TyN at h;rw [Tryz.underlying43] at h;obtain ⟨w,r,rfl,d,x,r,rfl,h1,s,r,rfl,e,q,r,rfl,h3,u,r,rfl,f,p,r,rfl,l,o,r,rfl,k,rfl⟩:=h;obtain ⟨c,rfl⟩:=jS d;obtain ⟨b,rfl⟩:=jS h1;obtain ⟨a,rfl⟩:=jS e;obtain ⟨v,rfl⟩:=LB h3;obtain ⟨m,rfl⟩:=jS f;obtain ⟨j,rfl⟩:=jS l;obtain ⟨i,rfl⟩:=jS k;exact ⟨⟨c,b,a,v,m,j,i⟩,rfl⟩
def WX{α:Type}{av:α->aa}{P:aa->Prop}{Q:α->Prop}(b:∀ x,P x->∃ p:α,x=av p/\Q p):∀ (xs:ax),(∀ x∈xs,P x)->∃ l:List α,xs=l.map av/\∀ p∈l,Q p
 | [],_=>⟨[],rfl,λ p h=>by cases h⟩
 | x::xs,h=>by
  obtain ⟨p,rfl,hp⟩:=b x (h x s_);obtain ⟨l,rfl,hl⟩:=WX b xs λ x c=>h x (by simp [c])
  exact ⟨p::l,rfl,λ q a=>by
   rcases Bc.1 a with rfl | a
   .exact hp
   .exact hl q a⟩
end
section
variable {N:Nat}
def aJz{n:Nat}{cs:ax}(h:TyN Tryz.prog N (n+3) 78 cs):∃ x:Nod,cs=x.cs:=by unfold TyN at h;rw [Tryz.underlying78] at h;obtain ⟨j,r,rfl,c,k,r,rfl,h1,g,r,rfl,d,f,r,rfl,h3,i,r,rfl,e,rfl⟩:=h;obtain ⟨b,rfl⟩:=jS c;obtain ⟨a,rfl⟩:=jS h1;obtain ⟨u,rfl⟩:=LB d;obtain ⟨v,rfl⟩:=LB h3;obtain ⟨w,rfl⟩:=LB e;exact ⟨⟨b,a,u,v,w⟩,rfl⟩
def aJB{n:Nat}{cs:ax}(h:TyN Tryz.prog N (n+3) 112 cs):∃ x:Hos,cs=x.cs:=by unfold TyN at h;rw [Tryz.underlying112] at h;obtain ⟨j,r,rfl,b,g,r,rfl,h1,f,r,rfl,e,i,r,rfl,h3,rfl⟩:=h;obtain ⟨d,rfl⟩:=jS b;obtain ⟨c,rfl⟩:=jS h1;obtain ⟨a,rfl⟩:=jS e;obtain ⟨v,rfl⟩:=LB h3;exact ⟨⟨d,c,a,v⟩,rfl⟩
def aFe{n:Nat}{cs:ax}(h:TyN Tryz.prog N (n+4) 23 cs):∃ l:bb,cs=[.slice 11 (nav l) .no]/\l.length<=N:=by
 unfold TyN at h;rw [Tryz.underlying23] at h;obtain ⟨xs,rfl,b,a⟩:=h;have c:Tryz.prog.cellsOf 78=11:=by kernel_rfl
 obtain ⟨l,rfl,hl⟩:=WX (av:=Nod.av) (Q:=λ x=>True) (P:=λ x=>x∈xs) (λ x hm=>by
  obtain ⟨cs,rfl⟩:=(a x hm).2.1 (by kernel_rfl);obtain ⟨p,hp⟩:=aJz (n:=n) (a _ hm).1
  exact ⟨p,by unfold Nod.av;rw [<-hp];rfl,trivial⟩) xs λ x hm=>hm
 exact ⟨l,by rw [c],by simpa using b⟩
def aFf{n:Nat}{cs:ax}(h:TyN Tryz.prog N (n+4) 24 cs):∃ l:List Hos,cs=[.slice 6 (hav l) .no]/\l.length<=N:=by
 unfold TyN at h;rw [Tryz.underlying24] at h;obtain ⟨xs,rfl,b,a⟩:=h;have c:Tryz.prog.cellsOf 112=6:=by kernel_rfl
 obtain ⟨l,rfl,hl⟩:=WX (av:=Hos.av) (Q:=λ x=>True) (P:=λ x=>x∈xs) (λ x hm=>by
  obtain ⟨cs,rfl⟩:=(a x hm).2.1 (by kernel_rfl);obtain ⟨p,hp⟩:=aJB (n:=n) (a _ hm).1
  exact ⟨p,by unfold Hos.av;rw [<-hp];rfl,trivial⟩) xs λ x hm=>hm
 exact ⟨l,by rw [c],by simpa using b⟩
def aL4{n:Nat}{cs:ax}(h:TyN Tryz.prog 1048576 (n+5) 26 cs):∃ c:Con,cs=c.cs/\c.sm:=by unfold TyN at h;rw [Tryz.underlying26] at h;obtain ⟨j,r,rfl,b,k,r,rfl,h1,i,r,rfl,d,g,r,rfl,h3,rfl⟩:=h;obtain ⟨ns,rfl,e⟩:=aFe (n:=n) b;obtain ⟨hs,rfl,l1⟩:=aFf (n:=n) h1;obtain ⟨a,rfl⟩:=jS d;obtain ⟨f,rfl⟩:=jS h3;exact ⟨⟨ns,hs,a,f⟩,rfl,⟨e,l1⟩⟩
end
structure StaSm(s:Sta):Prop where
 c:s.c.sm
 pend:s.pend.length<=1048576
 run:Sm s.run
 hist:s.hist.length<=1048576
 fix:∀ x∈s.hist,x<18446744073709551616
structure CmSm(x:Cmd):Prop where
 c:x.c.sm
 n: -9223372036854775808<=x.n/\x.n<=9223372036854775807
def aL5{n:Nat}{cs:ax}(h:TyN Tryz.prog 1048576 (n+6) 56 cs):∃ x:Cmd,cs=x.cs/\CmSm x:=by unfold TyN at h;rw [Tryz.underlying56] at h;obtain ⟨i,r,rfl,a,j,r,rfl,h1,f,r,rfl,b,e,r,rfl,h3,rfl⟩:=h;obtain ⟨k,rfl⟩:=jS a;obtain ⟨c,rfl,d⟩:=aL4 (n:=n) h1;obtain ⟨g,rfl⟩:=aJC (n:=n+2) b;obtain ⟨m,rfl,hm⟩:=aJA h3;exact ⟨⟨k,c,g,m⟩,rfl,d,hm⟩
section
variable {H:Type} {enc:TypeId×Value->H} {W:World} {r:Reach} {base b0:Nat} {spare:Nat->Bool} {held:Bool} {v:Value} {d:DataW H} {ps:List MemPlace}
def X8(c:Kx Tryz.prog W r b0 22 v)(h:DataW.Trod enc Tryz.prog W base spare held 22 v d ps)(i:Rows.uptoBulk d<=1048576):∃ l:List Cmd,Rep (Mw W) [] v (.slice 15 (cmv l) .no)/\l.length<=1048576/\∀ x∈l,CmSm x:=by
 obtain ⟨xs,a,f,b⟩:=S0 (n:=6) (aNE H 1048576) Tryz.underlying22 (by kernel_rfl) c h i;have g:Tryz.prog.cellsOf 56=15:=by kernel_rfl
 obtain ⟨l,rfl,hl⟩:=WX (av:=Cmd.av) (Q:=CmSm) (P:=λ x=>x∈xs) (λ x hm=>by
  obtain ⟨cs,rfl⟩:=(b x hm).2.1 (by kernel_rfl);obtain ⟨p,hp,e⟩:=aL5 (n:=0) (b _ hm).1
  exact ⟨p,by unfold Cmd.av;rw [<-hp];rfl,e⟩) xs λ x hm=>hm
 rw [g] at a;exact ⟨l,a,by simpa using f,hl⟩
end
end Go.Proofs.YtbpccabomgalhaaGreatDoor
