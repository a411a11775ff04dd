/- Part 10 of what the statement rests on. -/
import Derived.Test.YtaeegbkbahgjhaaGreatDoorRows
import Derived.Test.YtaeegbkbahgjhaaGreatDoorDA
set_option linter.all false
set_option maxHeartbeats 1000000
open And renaming intro->Ac
open Bool renaming and_eq_true->Ad,and_false->Es,not_eq_true'->Cw,or_eq_true->Fb,true_and->Cz
open Decidable renaming byContradiction->Li,not_not->Fh
open Iff renaming rfl->Np
open Int renaming le_refl->De,le_trans->Fl,mul_le_mul_of_nonneg_left->Km,mul_nonneg->Lb,toNat_natCast->Bv,toNat_of_nonneg->Kw
open List renaming Nodup->Lg,all_eq_true->Cr,any_eq_true->Fq,append_assoc->Af,append_nil->Ar,cons_append->Ce,count_eq_zero->Lc,count_le_length->Mx,count_pos_iff->Le,drop->Hj,drop_eq_getElem_cons->Ae,drop_eq_nil_of_le->Ah,drop_zero->Cq,eraseIdx_append_of_length_le->Jf,eraseIdx_eq_take_drop_succ->Fz,filter_cons->Hp,filter_cons_of_neg->Fs,filter_cons_of_pos->Ft,filter_eq_self->Gs,filter_sublist->Iv,foldl_append->Jm,foldl_cons->Bc,getElem?_eq_getElem->Aa,getElem_mem->Bf,length->Lk,length_append->Ai,length_cons->Al,length_eq_zero_iff->Cl,length_eraseIdx->Kh,length_filter_le->Fj,length_map->Cc,length_pos_iff->Dx,length_replicate->Gc,length_singleton->Mv,map_append->Bm,map_cons->Bl,map_drop->Ix,map_map->Dw,map_take->Gh,mem_append->Ba,mem_append_left->Dc,mem_append_right->Cv,mem_cons->Aw,mem_cons_of_mem->Ay,mem_cons_self->Ao,mem_filter->Fc,mem_map->Ca,mem_map_of_mem->Cm,mem_range->Ho,mem_reverse->Ir,mem_singleton->Dj,mem_singleton_self->Je,nodup_append->Bt,nodup_cons->Cg,nodup_nil->Hq,pairwise_cons->Cb,pairwise_map->Fw,pairwise_singleton->Jd,perm_append_comm->Dv,perm_middle->Ei,replicate->Aj,take->Hy,take_append_drop->Bo
open List.Pairwise renaming imp->Jj,nil->Ll
open List.Perm renaming append_left->Du,append_right->Dr,refl->Jk,trans->Mr
open List.Sublist renaming refl->Jn
open List.cons renaming inj->Ng
open Nat renaming le_refl->Bd,le_succ->Hu,le_trans->Cx,mul_le_mul->Gk,sub_self->Ml,zero_add->Bp
open Option renaming isSome_iff_exists->Da
namespace Go.Proofs.YtaeegbkbahgjhaaGreatDoor
open Go Go.AW Go.Proofs
set_option maxRecDepth 10000
def zqya0{P:Prop}(h:P:=by
 obtain ⟨k,c,g,n⟩:=x;dsimp only at a;subst a
 exact c_ Tryz.f43 λ_=>zW):P:=h
def zqya1{P:Prop}(h:P:=by
 refine cT (E:=E) (fn:=Tryz.f45) (g:=.full 1 _ _) λ_=>?_
 exact zW):P:=h
def zqya2{P:Prop}(h:P:=by
 have b:rav (s.run++[⟨p.g,p.seq,p.at',s.now,x.1,x.2⟩])=rav s.run++[Rn.av ⟨p.g,p.seq,p.at',s.now,x.1,x.2⟩]:=by simp
 unfold rdS rdO rdC ruV at a;dsimp only at a;rw [b] at a;generalize dN s.pend p.g.id=pq at *
 clear b e;refine cT (E:=(Er [] [60,64,86,87,88])) (fn:=Tryz.f142) (g:=.full 3 _ _) λ_=>?_
 exact zW):P:=h
def zqya3{P:Prop}(h:P:=by
 unfold sdF at h3
 exact c_ Tryz.f8 λ_=>zW):P:=h
def zqya4{P:Prop}(h:P:=by
 refine cT (E:=(Er [] [39,40,59,60,61,62,63,64])) (fn:=Tryz.f92) (g:=.full 3 _ _) λ_=>?_
 exact zW):P:=h
def zqya5{P:Prop}(h:P:=by exact c_ Tryz.f22 λ_=>zW):P:=h
def zqya6{P:Prop}(h:P:=by
 refine cT (E:=(Eo [6] [])) (fn:=Tryz.f48) (g:=.full 1 _ _) λ_=>?_
 exact zW):P:=h
def zqya7{P:Prop}(h:P:=by
 subst a
 exact c_ Tryz.f20 λ_=>zW):P:=h
def zqya8{P:Prop}(h:P:=by exact c_ Tryz.f21 λ_=>zW):P:=h
def zqya9{P:Prop}(h:P:=by
 intro i p c;rw [Ah o_,Ah o_] at c;subst c;refine gV ?_
 exact zW):P:=h
def zqya10{P:Prop}(h:P:=by
 refine cT (E:=(Er [] [60,64,86,87,88])) (fn:=Tryz.f142) (g:=.full 3 _ _) λ_=>?_
 exact zW):P:=h
def zqya11{P:Prop}(h:P:=by
 intro i a s p b;rw [Ah o_] at b;have b:a++[]=R:=b;rw [Ar] at b;subst b;refine gV ?_
 exact zW):P:=h
def zqya12{P:Prop}(h:P:=by
 refine cT (E:=(Er [] [24,38])) (fn:=Tryz.f44) (g:=.full 1 _ _) λ_=>?_
 exact zW):P:=h
def zqya13{P:Prop}(h:P:=by
 rw [if_neg (by rw [c];decide)] at a;rw [c] at f;have next:=e a
 refine gV ?_
 exact zW):P:=h
def zqya14{P:Prop}(h:P:=by
 refine cT (E:=E) (fn:=Tryz.f46) (g:=.full 2 _ _) λ_=>?_
 exact zW):P:=h
def zqya15{P:Prop}(h:P:=by
 intro i h a;rw [Ah o_] at a;have a: -1=r:=a;subst a;refine gV ?_
 exact zW):P:=h
def zqya16{P:Prop}(h:P:=by exact c_ Tryz.f29 λ_=>zW):P:=h
def zqya17{P:Prop}(h:P:=by
 rw [C8.eqL_len (by intro e;rw [d,c,e] at h;simp at h)]
 refine gW hE ?_;conv=>whnf):P:=h
def zqya18{P:Prop}(h:P:=by
 rw [if_pos c] at a;rw [c] at f;subst a;refine gV ?_
 exact zW):P:=h
def KP(l:bc)(h:l.length<=1048576):aq 66 [.slice 11 (nav l) .no] [] (.ret (.slice 11 (nav l) .no)) []:=by
 have a:(nav l).length=l.length:=by simp
 refine c_ Tryz.f66 λ_=>gV ?_;intro b c;refine gV ?_;refine ⟨λ h=>?_,λ h=>?_⟩
 .have h:b=true:=h;have e:nav l=[]:=c h;refine gV ?_;rw [e]
 .have h:b=false:=h;exact zW
def KQ(l:List Hos)(h:l.length<=1048576):aq 67 [.slice 6 (hav l) .no] [] (.ret (.slice 6 (hav l) .no)) []:=by
 have a:(hav l).length=l.length:=by simp
 refine c_ Tryz.f67 λ_=>gV ?_;intro b c;refine gV ?_;refine ⟨λ h=>?_,λ h=>?_⟩
 .have h:b=true:=h;have e:hav l=[]:=c h;refine gV ?_;rw [e]
 .have h:b=false:=h;exact zW
def S6(l:a7)(h:l.length<=1048576):aq 68 [.slice 11 (pnv l) .no] [] (.ret (.slice 11 (pnv l) .no)) []:=by
 have a:(pnv l).length=l.length:=by simp
 refine c_ Tryz.f68 λ_=>gV ?_;intro b c;refine gV ?_;refine ⟨λ h=>?_,λ h=>?_⟩
 .have h:b=true:=h;have e:pnv l=[]:=c h;refine gV ?_;rw [e]
 .have h:b=false:=h;exact zW
def S7(l:az)(h:l.length<=1048576):aq 69 [.slice 1 (fv l) .no] [] (.ret (.slice 1 (fv l) .no)) []:=by
 have a:(fv l).length=l.length:=by simp
 refine c_ Tryz.f69 λ_=>gV ?_;intro b c;refine gV ?_;refine ⟨λ h=>?_,λ h=>?_⟩
 .have h:b=true:=h;have e:fv l=[]:=c h;refine gV ?_;rw [e]
 .have h:b=false:=h;exact zW
abbrev xU(l:a6):au:=[.row 0 14 68 (rav l)]
def aAt(l:a6)(hs:Sm l)(ids:aw)(o:ids.length<=1048576)(R:a6):∀ (m i:Nat) (a:a6),i+m=l.length->a.length<=i->a++aE (l.drop i) ids=R->
  To (Er [5] []) fWo (.full 0 (.ret (.row 0 0)) (xU R)) (.head (stk fWo 0) [(1,.slice 1 (iv ids) .no),(5,.row 0 0),(8,.slice 14 (rav l) .no),(9,.int .i64 ((rav l).length:Nat)),(10,ii i)] (xU a)):=by
 have n:(rav l).length=l.length:=by simp
 have hl:=hs.1;intro m;induction m with
 | zero=>
  exact zqya11
 | succ m f=>
  intro i a s p b;have c:i<l.length:=o_;have k:=hs.at c;rw [Ae c] at b;generalize r:l[i]=x at b k;have get:(rav l)[i]? =some x.av:=(dT c).trans (by rw [r]);have q:(rav a).length=a.length:=by simp
  have j:=xI ids o x.g.id;cases d:inB x.g.id ids with
  | true=>
   rw [d] at j;rw [mQ d] at b;have next:=f (i+1) a o_ o_ b
   refine gV ?_;exact zW
  | false=>
   rw [d] at j;rw [mP d] at b;have next:=f (i+1) (a++[x]) o_ q_ (by rw [Af];exact b)
   have e:rav (a++[x])=rav a++[x.av]:=by simp
   unfold xU at next
   rw [e] at next
   refine gV ?_;have h:=A9 x k;exact zW
def aJu(l:a6)(hs:Sm l)(ids:aw)(a:ids.length<=1048576):aq 70 [.slice 14 (rav l) .no,.slice 1 (iv ids) .no] [] (.ret (.row 0 0)) (xU (aE l ids)):=by have h1:=aAt l hs ids a _ l.length 0 [] o_ s_ rfl;refine cT (E:=(Er [5] [])) (fn:=Tryz.f70) (g:=.full 0 _ _) λ_=>?_;exact zW
def aEW(l:a6)(hs:Sm l):aq 70 [.slice 14 (rav l) .no,.nilslice] [] (.ret (.row 0 0)) (xU l):=by have h:=aJu l hs [] s_;rw [fS] at h;exact aA.nil2 h
abbrev MN:au:=[.tail 0 14 68]
def aAv(l:a6)(hs:Sm l)(ids:aw)(o:ids.length<=1048576)(R:a6):∀ (m i:Nat) (a:a6),i+m=l.length->a.length<=i->a++aE (l.drop i) ids=R->
  To (Eo [5] []) fWo (.full 0 (.ret (.slice 14 (rav R) (.own 0 0))) MN) (.head (stk fWo 0) [(1,.slice 1 (iv ids) .no),(5,.slice 14 (rav a) (.own 0 0)),(8,.slice 14 (rav l) .no),(9,.int .i64 ((rav l).length:Nat)),(10,ii i)] MN):=by
 have n:(rav l).length=l.length:=by simp
 have hl:=hs.1;intro m;induction m with
 | zero=>
  exact zqya11
 | succ m h=>
  intro i a s p b;have c:i<l.length:=o_;have k:=hs.at c;rw [Ae c] at b;generalize r:l[i]=x at b k;have get:(rav l)[i]? =some x.av:=(dT c).trans (by rw [r]);have q:(rav a).length=a.length:=by simp
  have j:=xI ids o x.g.id;cases d:inB x.g.id ids with
  | true=>
   rw [d] at j;rw [mQ d] at b;have next:=h (i+1) a o_ o_ b
   refine gV ?_;exact zW
  | false=>
   rw [d] at j;rw [mP d] at b;have next:=h (i+1) (a++[x]) o_ q_ (by rw [Af];exact b)
   have e:rav (a++[x])=rav a++[x.av]:=by simp
   rw [e] at next
   refine gV ?_;have f:=A9 x k;exact zW
def aAu(l:a6)(hs:Sm l)(ids:aw)(a:ids.length<=1048576):aq 70 [.slice 14 (rav l) .no,.slice 1 (iv ids) .no] [] (.ret (.slice 14 (rav (aE l ids)) (.own 0 0))) MN:=by have h1:=aAv l hs ids a _ l.length 0 [] o_ s_ rfl;refine cT (E:=(Eo [5] [])) (fn:=Tryz.f70) (g:=.full 0 _ _) λ_=>?_;exact zW
def aEX(l:a6)(hs:Sm l):aq 70 [.slice 14 (rav l) .no,.nilslice] [] (.ret (.slice 14 (rav l) (.own 0 0))) MN:=by have h:=aAu l hs [] s_;rw [fS] at h;exact aA.nil2 h
structure StaSm'(s:Sta):Prop where
 ns:s.c.ns.length<=1048576
 hs:s.c.hs.length<=1048576
 pend:s.pend.length<=1048576
 run:Sm s.run
 hist:s.hist.length<=1048576
def Sta.avR(s:Sta)(k g:Nat):aa:=.agg [.slice 11 (nav s.c.ns) .no,.slice 6 (hav s.c.hs) .no,ii s.c.half,ii s.c.age,ii s.now,ii s.nxt,.slice 11 (pnv s.pend) .no,.row k g,.slice 1 (fv s.hist) .no]
def Sta.avO(s:Sta)(k g:Nat):aa:=.agg [.slice 11 (nav s.c.ns) .no,.slice 6 (hav s.c.hs) .no,ii s.c.half,ii s.c.age,ii s.now,ii s.nxt,.slice 11 (pnv s.pend) .no,.slice 14 (rav s.run) (.own k g),.slice 1 (fv s.hist) .no]
def aIx(s:Sta)(h:StaSm' s):aq 90 [s.av] [] (.ret (s.avO 0 0)) MN:=by have h1:=KP s.c.ns h.ns;have b:=KQ s.c.hs h.hs;have h3:=S6 s.pend h.pend;have d:=S7 s.hist h.hist;have a:=aEX s.run h.run;refine cT (E:=E) (fn:=Tryz.f90) (g:=.full 0 _ _) λ_=>?_;exact zW
def BC(s:Sta)(h:StaSm' s):aq 41 [s.av] [] (.ret (s.avR 0 0)) (xU s.run):=by have h1:=KP s.c.ns h.ns;have b:=KQ s.c.hs h.hs;have h3:=S6 s.pend h.pend;have d:=S7 s.hist h.hist;have a:=aEW s.run h.run;refine cT (E:=E) (fn:=Tryz.f41) (g:=.full 0 _ _) λ_=>?_;exact zW
abbrev rdC(r:Rd)(run:aa)(ge:Nat):ay:=[.slice 11 (nav r.s.c.ns) .no,.slice 6 (hav r.s.c.hs) .no,ii r.s.c.half,ii r.s.c.age,ii r.s.now,ii r.s.nxt,.slice 11 (pnv r.s.pend) .no,run,.slice 1 (fv r.s.hist) .no,.slice 3 (evv r.ev) (.own 1 ge),.bool r.head,ii r.start]
abbrev rdO(r:Rd)(run:aa)(ge:Nat):ab:=.cells 187 (rdC r run ge)
abbrev evT(g:Nat):ab:=.tail g 3 52
abbrev ruT(g:Nat):ab:=.tail g 14 68
abbrev ruV(l:a6)(k g:Nat):aa:=.slice 14 (rav l) (.own k g)
abbrev rdS(r:Rd)(ge gr:Nat):au:=[rdO r (ruV r.s.run 2 gr) ge,evT ge,ruT gr]
def lO(r:Rd)(e:Ev):Rd:=⟨r.s,r.ev++[e],r.head,r.start⟩
def JN(r:Rd)(k id n:Int)(hl:r.ev.length<=1048576):aq 146 [.ref 0 0,ii k,ii id,ii n] (rdS r 0 0) (.ret (.tup [])) (rdS (lO r ⟨k,id,n⟩) 1 0):=by
 have a:(evv r.ev).length=r.ev.length:=by simp
 have e:evv (r.ev++[⟨k,id,n⟩])=evv r.ev++[Ev.av ⟨k,id,n⟩]:=by simp
 unfold lO;show aA _ _ _ _ _ [.cells _ [_,_,_,_,_,_,_,_,_,.slice 3 (evv (r.ev++[⟨k,id,n⟩])) (.own 1 1),_,_],_,_];rw [e];refine cT (E:=E) (fn:=Tryz.f146) (g:=.full 3 _ _) λ_=>?_;exact zW
def NG(r:Rd)(l:a6)(k id n:Int)(hl:r.ev.length<=1048576):aq 146 [.ref 0 0,ii k,ii id,ii n] [rdO r (.slice 14 (rav l) .no) 0,evT 0] (.ret (.tup [])) [rdO (lO r ⟨k,id,n⟩) (.slice 14 (rav l) .no) 1,evT 1]:=by
 have a:(evv r.ev).length=r.ev.length:=by simp
 have e:evv (r.ev++[⟨k,id,n⟩])=evv r.ev++[Ev.av ⟨k,id,n⟩]:=by simp
 unfold lO;show aA _ _ _ _ _ [.cells _ [_,_,_,_,_,_,_,_,_,.slice 3 (evv (r.ev++[⟨k,id,n⟩])) (.own 1 1),_,_],_];rw [e];refine cT (E:=E) (fn:=Tryz.f146) (g:=.full 2 _ _) λ_=>?_;exact zW
def xB{n a:Nat}(h:n<=1048576)(b:a<=1000):A1 (n+1) a:=Ac (by simp only [maxLen];omega) (Cx (Gk (show n+1<=1048577 by omega) b) d_)
def aN6(r:Rd)(p:Pn)(a:aq 123 [r.s.c.av,.slice 14 (rav r.s.run) .no,p.g.av] [] (.ret (fdA none)) []):
  aq 142 [.ref 0 0,p.av] (rdS r 0 0) (.ret (.bool false)) (rdS r 0 0):=by
 obtain ⟨s,ev,head,start⟩:=r;exact zqya10
def aN8(s:Sta)(ev:bg)(start:Int)(p:Pn)(x:Int×aw)(a:aq 123 [s.c.av,.slice 14 (rav s.run) .no,p.g.av] [] (.ret (fdA (some x))) [])
  (hm:aq 189 [ii s.now,p.g.av,ii start] [] (.ret (.bool false)) []):
  aq 142 [.ref 0 0,p.av] (rdS ⟨s,ev,true,start⟩ 0 0) (.ret (.bool false)) (rdS ⟨s,ev,true,start⟩ 0 0):=by
 exact zqya10
set_option maxHeartbeats 1000000 in
def aN5(s:Sta)(ev:bg)(start:Int)(p:Pn)(x:Int×aw)(i:aq 123 [s.c.av,.slice 14 (rav s.run) .no,p.g.av] [] (.ret (fdA (some x))) [])(j:ev.length<=1000000)(hp:s.pend.length<=1000000)(d:(rav s.run).length<=1048576)
  (hm:aq 189 [ii s.now,p.g.av,ii start] [] (.ret (.bool true)) []):
  aq 142 [.ref 0 0,p.av] (rdS ⟨s,ev,true,start⟩ 0 0) (.ret (.bool true)) (rdS (P7 ⟨s,ev,true,start⟩ p x.1 x.2) 1 1):=by
 have e:P7 ⟨s,ev,true,start⟩ p x.1 x.2=lO ⟨{s with pend:=dN s.pend p.g.id,run:=s.run++[⟨p.g,p.seq,p.at',s.now,x.1,x.2⟩]},ev,true,start⟩ ⟨1,p.g.id,x.1⟩:=rfl;have a:=JN ⟨{s with pend:=dN s.pend p.g.id,run:=s.run++[⟨p.g,p.seq,p.at',s.now,x.1,x.2⟩]},ev,true,start⟩ 1 p.g.id x.1 (by show ev.length<=_;omega);have h:=rI s.pend p.g.id hp;rw [e];generalize lO ⟨{s with pend:=dN s.pend p.g.id,run:=s.run++[⟨p.g,p.seq,p.at',s.now,x.1,x.2⟩]},ev,true,start⟩ ⟨1,p.g.id,x.1⟩=r2 at *
 exact zqya2
set_option maxHeartbeats 1000000 in
def aN7(s:Sta)(ev:bg)(start:Int)(p:Pn)(x:Int×aw)(h:aq 123 [s.c.av,.slice 14 (rav s.run) .no,p.g.av] [] (.ret (fdA (some x))) [])(j:ev.length<=1000000)(hp:s.pend.length<=1000000)(d:(rav s.run).length<=1048576):
  aq 142 [.ref 0 0,p.av] (rdS ⟨s,ev,false,start⟩ 0 0) (.ret (.bool true)) (rdS (P7 ⟨s,ev,false,start⟩ p x.1 x.2) 1 1):=by
 have hm:=h;have e:P7 ⟨s,ev,false,start⟩ p x.1 x.2=lO ⟨{s with pend:=dN s.pend p.g.id,run:=s.run++[⟨p.g,p.seq,p.at',s.now,x.1,x.2⟩]},ev,false,start⟩ ⟨1,p.g.id,x.1⟩:=rfl;have a:=JN ⟨{s with pend:=dN s.pend p.g.id,run:=s.run++[⟨p.g,p.seq,p.at',s.now,x.1,x.2⟩]},ev,false,start⟩ 1 p.g.id x.1 (by show ev.length<=_;omega);have i:=rI s.pend p.g.id hp;rw [e];generalize lO ⟨{s with pend:=dN s.pend p.g.id,run:=s.run++[⟨p.g,p.seq,p.at',s.now,x.1,x.2⟩]},ev,false,start⟩ ⟨1,p.g.id,x.1⟩=r2 at *
 exact zqya2
def P6(r:Rd)(p:Pn)(j:r.s.c.sm)(hs:Sm r.s.run)(hp:r.s.pend.length<=1000000)(i:r.ev.length<=1000000)(k:0<=p.g.pods/\p.g.pods<=16):
  (admR r p=(r,false)/\aq 142 [.ref 0 0,p.av] (rdS r 0 0) (.ret (.bool false)) (rdS r 0 0))\/
  ((admR r p).2=true/\aq 142 [.ref 0 0,p.av] (rdS r 0 0) (.ret (.bool true)) (rdS (admR r p).1 1 1)):=by
 have b:(rav r.s.run).length<=1048576:=by simpa using hs.1
 have a:=xC r.s.c j r.s.run hs p.g k;have hm:=aIK r.s.now p.g r.start;unfold admR;cases h:cM r.s.c r.s.run p.g with
 | none=>
  rw [h] at a;exact .inl ⟨rfl,aN6 r p a⟩
 | some x=>
  rw [h] at a;obtain ⟨s,ev,head,start⟩:=r;cases head with
  | false=>exact .inr ⟨rfl,aN7 s ev start p x a i hp b⟩
  | true=>
   cases d:bmB s.now p.g start with
   | false=>
    have e:FT ⟨s,ev,true,start⟩ p (some x)=(⟨s,ev,true,start⟩,false):=by unfold FT;exact if_pos (by rw [d];rfl)
    rw [e];dsimp only at hm;rw [d] at hm;exact .inl ⟨rfl,aN8 s ev start p x a hm⟩
   | true=>
    have e:FT ⟨s,ev,true,start⟩ p (some x)=(P7 ⟨s,ev,true,start⟩ p x.1 x.2,true):=by unfold FT;exact if_neg (by rw [d];simp)
    rw [e];dsimp only at hm;rw [d] at hm;exact .inr ⟨rfl,aN5 s ev start p x a i hp b hm⟩
def bV(id:Int)(x:Rn):Bool:=x.g.id==id
abbrev idF(n:Nat)(id:Int):aa:=.func (.func n) [] [.ptr [ii id]]
def RW(n:Nat)(id:Int)(d:∀ x:Rn,aA Tryz.prog n [x.av,.ptr [ii id]] [] (.ret (.bool (bV id x))) [])(l:a6)(hl:l.length<=1048576)(r:Int):∀ (m i:Nat),i+m=l.length->aS (bV id) (l.drop i) i=r->
  To E HO (.pure (.ret (ii r))) (.head (stk HO 0) [(0,.slice 14 (rav l) .no),(1,idF n id),(7,.int .i64 ((rav l).length:Nat)),(8,ii i)] []):=by
 have g:(rav l).length=l.length:=by simp
 intro m;induction m with
 | zero=>
  exact zqya15
 | succ m e=>
  intro i h a;have b:i<l.length:=o_;rw [Ae b] at a;have get:(rav l)[i]? =some l[i].av:=dT b;generalize l[i]=x at a get;unfold aS at a;have f:=d x;have e:=e (i+1) o_;cases c:bV id x with
  | true=>
   exact zqya18
  | false=>
   exact zqya13
def DW(n:Nat)(id:Int)(a:∀ x:Rn,aA Tryz.prog n [x.av,.ptr [ii id]] [] (.ret (.bool (bV id x))) [])(l:a6)(hl:l.length<=1048576):aq 121 [.slice 14 (rav l) .no,idF n id] [] (.ret (ii (aS (bV id) l 0))) []:=by refine c_ Tryz.f121 λ_=>gV ?_;exact To.cut [0,1,7,8] 0 rfl rfl rfl rfl (RW n id a l hl _ l.length 0 o_ rfl)
def WU(id:Int)(x:Rn):aq 197 [x.av,.ptr [ii id]] [] (.ret (.bool (bV id x))) []:=by unfold bV;exact c_ Tryz.f197 λ_=>zW
def GD(id:Int)(x:Rn):aq 122 [x.av,.ptr [ii id]] [] (.ret (.bool (bV id x))) []:=by unfold bV;exact c_ Tryz.f122 λ_=>zW
def oL(p:Rn->Bool):∀ (l:a6) (i:Nat),aS p l i= -1\/((i:Int)<=aS p l i/\aS p l i<(i:Int)+l.length)
 | [],i=>.inl rfl
 | x::l,i=>by
  unfold aS;by_cases h:p x=true
  .rw [if_pos h];right;simp;omega
  .rw [if_neg h];rcases oL p l (i+1) with a | a
   .exact .inl a
   .right;simp;omega
noncomputable abbrev fEv:Func:=Tryz.f144
abbrev evF(ids:aw)(i:Nat):ar:=[(0,.ref 0 0),(1,.slice 1 (iv ids) .no),(8,.slice 1 (iv ids) .no),(9,.int .i64 ((iv ids).length:Nat)),(10,ii i)]
abbrev evD(Q:Rd)(run:a6)(ids:aw):Rd:=⟨{Q.s with run:=aE run ids},Q.ev,Q.head,Q.start⟩
abbrev evG(Q:Rd)(run:a6)(ids:aw)(g:Nat):Goal:=.full 2 (.ret (.tup [])) [rdO (evD Q run ids) (ruV (aE run ids) 2 0) g,evT g,ruT 0]
abbrev evB(q:Rd)(run:a6)(g:Nat):au:=[rdO q (.slice 14 (rav run) .no) g,evT g]
def CP(l:a7)(p:Pn):(kG l p).length=l.length+1:=by unfold kG;rw [Ai,Ai,Mv];have:=congrArg Lk (Bo (Q2.putAt p.q (l.map Pn.q)) l);rw [Ai] at this;omega
set_option maxHeartbeats 1000000 in
def aHQ(run:a6)(hs:Sm run)(ids:aw)(u:ids.length<=1048576)(f:∀ id∈ids,0<=aS (bV id) run 0)(Q:Rd):∀ (m i:Nat) (q:Rd),i+m=ids.length->(ids.drop i).foldl (dX run) q=Q->q.s.pend.length+m<=1000000->q.ev.length+m<=1000000->
  To E fEv (evG Q run ids 1) (.head (stk fEv 0) (evF ids i) (evB q run 1)):=by
 intro m;induction m with
 | zero=>
  intro i q z b hp A;rw [Ah o_] at b;have b:q=Q:=b;subst b;have C:=aAu run hs ids u;have n:(iv ids).length=ids.length:=by simp
  have w:evG q run ids 1= .full 2 (.ret (.tup [])) [rdO q (ruV (aE run ids) 2 0) 1,evT 1,ruT 0]:=rfl;rw [w];generalize aE run ids=rn at *
  refine gV ?_;exact zW
 | succ m r=>
  intro i q z b hp A;have c:i<ids.length:=o_;rw [Ae c,Bc] at b;have o:=f _ (Bf c);have get:(iv ids)[i]? =some (ii ids[i]):=by simp [c]
  generalize ids[i]=id at b o get;have h1:=DW _ id (WU id) run hs.1
  obtain ⟨at',d⟩:∃ a:Nat,aS (bV id) run 0=(a:Int):=⟨(aS (bV id) run 0).toNat,by omega⟩
  have j:at'<run.length:=by
   rcases oL (bV id) run 0 with h | h
   .omega
   .rw [d] at h;omega
  have B:=iB j;have k:dX run q id=lO ⟨{q.s with pend:=kG q.s.pend (aU run at').pn},q.ev,q.head,q.start⟩ ⟨2,id,0⟩:=by
   have e:(aS (λ x=>x.g.id==id) run 0).toNat=at':=by have y:aS (bV id) run 0=at':=d;have v:aS (λ x=>x.g.id==id) run 0=aS (bV id) run 0:=rfl;rw [v,y];rfl
   unfold dX;rw [e];rfl
  rw [k] at b;rw [d] at h1;have p:=JD q.s.pend (aU run at').pn o_;have h3:=NG ⟨{q.s with pend:=kG q.s.pend (aU run at').pn},q.ev,q.head,q.start⟩ run 2 id 0 (by show q.ev.length<=_;omega);have next:=r (i+1) (lO ⟨{q.s with pend:=kG q.s.pend (aU run at').pn},q.ev,q.head,q.start⟩ ⟨2,id,0⟩) o_ b (by show (kG _ _).length+m<=_;rw [CP];omega) (by show (q.ev++[_]).length+m<=_;simp;omega)
  generalize lO ⟨{q.s with pend:=kG q.s.pend (aU run at').pn},q.ev,q.head,q.start⟩ ⟨2,id,0⟩=q2 at *
  generalize kG q.s.pend (aU run at').pn=pq at *
  have l:(aU run at').pn=⟨(aU run at').g,(aU run at').seq,(aU run at').at'⟩:=rfl;rw [l] at p;generalize aU run at'=x at *
  have n:(iv ids).length=ids.length:=by simp
  have t:(rav run).length=run.length:=by simp
  clear k b f;refine gV ?_;exact zW
set_option maxHeartbeats 1000000 in
def aDw(r:Rd)(run:a6)(b:r.s.run=run)(hs:Sm run)(ids:aw)(G:ids.length<=1048576)(w:ids≠[])(k:∀ id∈ids,0<=aS (bV id) run 0)(hp:r.s.pend.length+ids.length<=1000000)(M:r.ev.length+ids.length<=1000000):
  aq 144 [.ref 0 0,.slice 1 (iv ids) .no] (evB r run 0) (.ret (.tup [])) [rdO (mW r ids) (ruV (mW r ids).s.run 2 0) 1,evT 1,ruT 0]:=by
 have z:mW r ids=evD (ids.foldl (dX run) r) run ids:=by rw [<-b];rfl
 rw [z]
 obtain ⟨Q,n⟩:∃ Q,(ids.drop 0).foldl (dX run) r=Q:=⟨_,rfl⟩
 have o:ids.foldl (dX run) r=Q:=n;rw [o];have ev:=aHQ run hs ids G k Q;have p:0<ids.length:=Dx.2 w
 obtain ⟨m,hm⟩:∃ m,ids.length=m+1:=⟨ids.length-1,by omega⟩
 have B:(0:Nat)=0:=rfl;have key:To E fEv (evG Q run ids 1) (.head (stk fEv 0) (evF ids 0) (evB r run 0)):=by
  have hp:r.s.pend.length+(m+1)<=1000000:=o_;have M:r.ev.length+(m+1)<=1000000:=o_;have L:0+(m+1)=ids.length:=o_;clear o z b
  obtain ⟨i,l⟩:∃ i:Nat,i=0:=⟨_,rfl⟩
  have c:∀ q,q=r->To E fEv (evG Q run ids 1) (.head (stk fEv 0) (evF ids i) (evB q run 0)):=by
   intro q I;subst I;rw [<-l] at n L;have D:=λ q=>ev m (i+1) q o_;clear B ev l p;have d:i<ids.length:=o_;rw [Ae d,Bc] at n;have y:=k _ (Bf d);have get:(iv ids)[i]? =some (ii ids[i]):=by simp [d]
   generalize ids[i]=id at n y get;have h1:=DW _ id (WU id) run hs.1
   obtain ⟨at',j⟩:∃ a:Nat,aS (bV id) run 0=(a:Int):=⟨(aS (bV id) run 0).toNat,by omega⟩
   have t:at'<run.length:=by
    rcases oL (bV id) run 0 with h | h
    .omega
    .rw [j] at h;omega
   have N:=iB t;have u:dX run q id=lO ⟨{q.s with pend:=kG q.s.pend (aU run at').pn},q.ev,q.head,q.start⟩ ⟨2,id,0⟩:=by
    have e:(aS (λ x=>x.g.id==id) run 0).toNat=at':=by have K:aS (bV id) run 0=at':=j;have H:aS (λ x=>x.g.id==id) run 0=aS (bV id) run 0:=rfl;rw [H,K];rfl
    unfold dX;rw [e];rfl
   rw [u] at n;rw [j] at h1;have C:=JD q.s.pend (aU run at').pn o_;have h3:=NG ⟨{q.s with pend:=kG q.s.pend (aU run at').pn},q.ev,q.head,q.start⟩ run 2 id 0 (by show q.ev.length<=_;omega);have next:=D (lO ⟨{q.s with pend:=kG q.s.pend (aU run at').pn},q.ev,q.head,q.start⟩ ⟨2,id,0⟩)  n (by show (kG _ _).length+m<=_;rw [CP];omega) (by show (q.ev++[_]).length+m<=_;simp;omega)
   generalize lO ⟨{q.s with pend:=kG q.s.pend (aU run at').pn},q.ev,q.head,q.start⟩ ⟨2,id,0⟩=q2 at *
   generalize kG q.s.pend (aU run at').pn=pq at *
   have v:(aU run at').pn=⟨(aU run at').g,(aU run at').seq,(aU run at').at'⟩:=rfl;rw [v] at C;generalize aU run at'=x at *
   have J:(iv ids).length=ids.length:=by simp
   have F:(rav run).length=run.length:=by simp
   clear u n k;refine gV ?_;exact zW
  rw [l] at c;exact c r rfl
 refine cT (E:=E) (fn:=Tryz.f144) (g:=.full 2 _ _) λ_=>?_;exact zW
abbrev aAm(r:Rd)(p:Pn)(b:Bool)(O:au):Prop:=aq 142 [.ref 0 0,p.av] (rdS r 0 0) (.ret (.bool b)) O
abbrev wL(r:Rd)(p:Pn)(O:au):Prop:=aq 92 [.ref 0 0,p.av] (rdS r 0 0) (.ret (.tup [])) O
abbrev aLH(r:Rd)(p:Pn)(Q:Option aw):Prop:=aq 143 [r.s.c.av,.slice 14 (rav r.s.run) .no,p.g.av] [] (.ret (chR Q)) []
abbrev aMh(r:Rd)(p:Pn)(Q:Option Int):Prop:=aq 145 [r.s.c.av,ii r.s.now,.slice 14 (rav r.s.run) .no,p.g.av] [] (.ret (stA Q)) []
def wM(r R:Rd)(p:Pn)(h1:aAm r p true (rdS R 1 1)):wL r p (rdS R 1 1):=by exact zqya4
def aML(s:Sta)(ev:bg)(st:Int)(p:Pn)(h1:aAm ⟨s,ev,true,st⟩ p false (rdS ⟨s,ev,true,st⟩ 0 0)):wL ⟨s,ev,true,st⟩ p (rdS ⟨s,ev,true,st⟩ 0 0):=by exact zqya4
set_option maxHeartbeats 1000000 in
def aMK(s:Sta)(ev:bg)(p:Pn)(h1:aAm ⟨s,ev,false,0⟩ p false (rdS ⟨s,ev,false,0⟩ 0 0))(a:aLH ⟨s,ev,false,0⟩ p none)(h3:aMh ⟨s,ev,false,0⟩ p none):wL ⟨s,ev,false,0⟩ p (rdS ⟨s,ev,false,0⟩ 0 0):=by exact zqya4
set_option maxHeartbeats 1000000 in
def aMJ(s:Sta)(ev:bg)(st:Int)(p:Pn)(n:Int)(c:ev.length<=1000000)(h1:aAm ⟨s,ev,false,st⟩ p false (rdS ⟨s,ev,false,st⟩ 0 0))(b:aLH ⟨s,ev,false,st⟩ p none)(h3:aMh ⟨s,ev,false,st⟩ p (some n)):wL ⟨s,ev,false,st⟩ p (rdS ⟨s,ev++[⟨4,p.g.id,n⟩],true,n⟩ 1 0):=by
 have a:=JN ⟨s,ev,true,n⟩ 4 p.g.id n (by show ev.length<=_;omega);unfold lO at a;dsimp only at a;generalize ev++[⟨4,p.g.id,n⟩]=ev2 at *
 refine cT (E:=(Er [] [39,40,59,60,61,62,63,64])) (fn:=Tryz.f92) (g:=.full 3 _ _) λ_=>?_
 repeat' first | (refine gN (hEr [] [39,40,59,60,61,62,63,64]) ?_;conv=>whnf) | refine .eff [] [0,1,2] _ _ rfl h1 ?_ | refine .pure _ [] b ?_ | refine .pure _ [] h3 ?_ | refine .sole rfl (.eff [] [0,1,2] _ _ rfl a ?_) | exact rfl | refine zt ?_ | refine zu ?_ ?_ | intro h | fail
 refine ⟨[],[0,1,2],⟨rfl,rfl⟩,rfl,rfl⟩
abbrev aNW(r:Rd)(ids:aw)(R:Rd):Prop:=aq 144 [.ref 0 0,.slice 1 (iv ids) .no] (evB r r.s.run 0) (.ret (.tup [])) [rdO R (ruV R.s.run 2 0) 1,evT 1,ruT 0]
set_option maxHeartbeats 2000000 in
def tP(s:Sta)(ev:bg)(st:Int)(p:Pn)(ids:aw)(R:Rd)(h1:aAm ⟨s,ev,false,st⟩ p false (rdS ⟨s,ev,false,st⟩ 0 0))(e:aLH ⟨s,ev,false,st⟩ p (some ids))(h3:aNW ⟨s,ev,false,st⟩ ids R)
  (a:Rd) (b:Bool) (d c:Nat) (j:aAm R p b (rdS a d c)) (i:d=0/\c=0\/d=1/\c=1):wL ⟨s,ev,false,st⟩ p [rdO a (ruV a.s.run 3 0) 1,evT 1,ruT 0,ruT 0]:=by
 rcases i with ⟨rfl,rfl⟩ | ⟨rfl,rfl⟩
 all_goals
  refine cT (E:=(Er [] [39,40,59,60,61,62,63,64])) (fn:=Tryz.f92) (g:=.full 3 _ _) λ_=>?_
  repeat' first | (refine gN (hEr [] [39,40,59,60,61,62,63,64]) ?_;conv=>whnf) | refine .eff [] [0,1,2] _ _ rfl h1 ?_ | refine .pure _ [] e ?_ | refine .eff [] [0,1] _ _ rfl h3 ?_ | refine .eff [] [0,1,4] _ _ rfl j ?_ | exact rfl | refine zt ?_ | refine zu ?_ ?_ | intro h | fail
  refine ⟨[],[0,1,2,4],⟨rfl,rfl⟩,rfl,rfl⟩
def BW(r:Rd)(p:Pn):Prop:=
 (cQ r p=r/\wL r p (rdS r 0 0))\/wL r p (rdS (cQ r p) 1 1)\/wL r p (rdS (cQ r p) 1 0)\/wL r p [rdO (cQ r p) (ruV (cQ r p).s.run 3 0) 1,evT 1,ruT 0,ruT 0]
noncomputable abbrev aM5:Func:=Tryz.f49
abbrev LC:ab:=.cells 49 [.slice 11 [] .nil,.slice 6 [] .nil,ii 0,ii 0,ii 0,ii 0,.slice 11 [] .nil,.slice 14 [] .nil,.slice 1 [] .nil]
abbrev aNM(L:a7)(i:Nat):ar:=[(2,.ref 3 0),(4,.ref 0 0),(12,.slice 11 (pnv L) .no),(13,.int .i64 ((pnv L).length:Nat)),(14,ii i)]
abbrev aNL(r:Rd):au:=[rdO r (ruV r.s.run 2 0) 0,evT 0,ruT 0,LC]
set_option maxHeartbeats 1000000 in
def aBn(b:Rd->a7->Prop)(k:∀ r p rest,b r (p::rest)->BW r p/\b (cQ r p) rest)(L:a7)(n:L.length<=1000000)(R:Rd):∀ (m i:Nat) (r:Rd),i+m=L.length->(L.drop i).foldl cQ r=R->b r (L.drop i)->
  To E aM5 (.pure (.ret (.tup [R.s.av,.slice 3 (evv R.ev) .no]))) (.head (stk aM5 0) (aNM L i) (aNL r)):=by
 have g:(pnv L).length=L.length:=by simp
 intro m;induction m with
 | zero=>
  intro i r l a _;rw [Ah o_] at a;have a:r=R:=a;subst a;refine gV ?_;refine aF λ h=>?_;refine cP hE 2 ?_;conv=>whnf
  refine To.permAt hE [0,1,2,3,4,5,6,7,9] [8] (by rfl) ?_;conv=>whnf
  refine aL ?_;refine aL ?_;exact zW
 | succ m j=>
  intro i r l a d;have c:i<L.length:=o_;rw [Ae c] at a d;rw [Bc] at a;obtain ⟨h1,f⟩:=k _ _ _ d;have get:=JF c;generalize L[i]=p at a d h1 f get;have next:=j (i+1) (cQ r p) o_ a f
  rcases h1 with ⟨e,hl⟩ | hl | hl | hl
  .rw [e] at next
   refine gV ?_;exact zW
  .generalize cQ r p=r2 at *
   refine gV ?_;exact zW
  .generalize cQ r p=r2 at *
   refine gV ?_;exact zW
  .generalize cQ r p=r2 at *
   refine gV ?_;refine aT λ h=>?_
   repeat' first | (refine gN hE ?_;conv=>whnf) | refine ⟨i,rfl,?_⟩ | refine ⟨_,get,?_⟩ | refine .eff [] [0,1,2] _ _ rfl hl ?_ | exact rfl | refine zt ?_ | refine zu ?_ ?_ | intro h | fail
   refine To.part [2,4,12,13,14] [0,1,5,3] rfl rfl rfl ?_;exact next
def aIu(a:Rd->a7->Prop)(b:∀ r p rest,a r (p::rest)->BW r p/\a (cQ r p) rest)(s:Sta)(h:StaSm' s)(L:a7)(e:L.length<=1000000)(hs:aq 91 [s.av] [] (.ret (.slice 11 (pnv L) .no)) [])(c:a ⟨s,[],false,0⟩ L):
  aq 49 [s.av] [] (.ret (.tup [(L.foldl cQ ⟨s,[],false,0⟩).s.av,.slice 3 (evv (L.foldl cQ ⟨s,[],false,0⟩).ev) .no])) []:=by
 have h1:=aBn a b L e _ L.length 0 ⟨s,[],false,0⟩ o_ rfl c;have d:=aIx s h;rw [Cq] at h1;generalize L.foldl cQ ⟨s,[],false,0⟩=R at *
 refine c_ Tryz.f49 λ_=>?_
 repeat' first | (refine gN hE ?_;conv=>whnf) | refine .pure _ _ d ?_ | refine .pure _ [] hs ?_ | exact rfl | refine zt ?_ | refine zu ?_ ?_ | intro h | fail
 refine To.begin 3 9 52 rfl rfl ?_;refine To.part [2,4,12,13,14] [3,4,2,1] rfl rfl rfl ?_;exact h1
def BP(run:a6):∀ (ids:aw) (r:Rd),(ids.foldl (dX run) r).s.c=r.s.c/\(ids.foldl (dX run) r).s.now=r.s.now/\(ids.foldl (dX run) r).s.nxt=r.s.nxt/\(ids.foldl (dX run) r).s.hist=r.s.hist/\(ids.foldl (dX run) r).s.run=r.s.run/\(ids.foldl (dX run) r).head=r.head/\(ids.foldl (dX run) r).start=r.start/\(ids.foldl (dX run) r).s.pend.length=r.s.pend.length+ids.length/\(ids.foldl (dX run) r).ev.length=r.ev.length+ids.length
 | [],r=>⟨rfl,rfl,rfl,rfl,rfl,rfl,rfl,rfl,rfl⟩
 | id::ids,r=>by
  obtain ⟨a,b,c,d,e,f,g,h,i⟩:=BP run ids (dX run r id);have h1:(dX run r id).s.pend.length=r.s.pend.length+1:=CP _ _;have j:(dX run r id).ev.length=r.ev.length+1:=by show (r.ev++[_]).length=_;simp
  rw [Bc];refine ⟨a,b,c,d,e,f,g,?_,?_⟩
  .rw [h,h1,Al];omega
  .rw [i,j,Al];omega
structure LookPre(r:Rd)(p:Pn):Prop where
 c:r.s.c.sm
 run:Sm r.s.run
 pend:r.s.pend.length<=900000
 ev:r.ev.length<=900000
 pods:0<=p.g.pods/\p.g.pods<=16
 start:r.head=false->r.start=0
 cho:cM r.s.c r.s.run p.g=none->∀ ids,gK r.s.c r.s.run p.g=some ids->ids≠[]/\ids.length<=100000/\∀ id∈ids,0<=aS (bV id) r.s.run 0
def aCA(r:Rd)(p:Pn)(h:LookPre r p):BW r p:=by
 have t:=h.pend;have i:=h.ev;rcases P6 r p h.c h.run o_ o_ h.pods with ⟨e,f⟩ | ⟨e,f⟩
 .have m:(admR r p).2=false:=by rw [e]
  obtain ⟨s,ev,head,start⟩:=r;cases head with
  | true=>
   have a:cQ ⟨s,ev,true,start⟩ p=⟨s,ev,true,start⟩:=by unfold cQ;rw [if_neg (by rw [m];decide),if_pos rfl]
   exact .inl ⟨a,aML s ev start p f⟩
  | false=>
   have a:cQ ⟨s,ev,false,start⟩ p=aJb ⟨s,ev,false,start⟩ p (gK s.c s.run p.g):=by unfold cQ;rw [if_neg (by rw [m];decide),if_neg (show ¬ false=true by decide)]
   have b:=aAc s.c h.c s.run h.run p.g h.pods;have d:=h.cho;dsimp only at d;cases o:gK s.c s.run p.g with
   | none=>
    rw [o] at b a;have hst:=aA2 s.c h.c s.now s.run h.run p.g h.pods;have a:cQ ⟨s,ev,false,start⟩ p=pE ⟨s,ev,false,start⟩ p (uF s.c s.now s.run p.g):=a;cases hs:uF s.c s.now s.run p.g with
    | none=>
     rw [hs] at hst a;have B:start=0:=h.start rfl;subst B;exact .inl ⟨a,aMK s ev p f b hst⟩
    | some n=>
     rw [hs] at hst a;have a:cQ ⟨s,ev,false,start⟩ p=⟨s,ev++[⟨4,p.g.id,n⟩],true,n⟩:=a;refine .inr (.inr (.inl ?_));rw [a];exact aMJ s ev start p n (by dsimp only at i;omega) f b hst
   | some ids=>
    rw [o] at b a;have j:cM s.c s.run p.g=none:=by
     have v:(FT ⟨s,ev,false,start⟩ p (cM s.c s.run p.g)).2=false:=m;cases z:cM s.c s.run p.g with
     | none=>rfl
     | some x=>rw [z] at v;have H:true=false:=v;cases H
    obtain ⟨y,K,G⟩:=d j ids o;have a:cQ ⟨s,ev,false,start⟩ p=(admR (mW ⟨s,ev,false,start⟩ ids) p).1:=a;have u:=aDw ⟨s,ev,false,start⟩ s.run rfl h.run ids o_ y G (by dsimp only at t⊢;omega) (by dsimp only at i⊢;omega);obtain ⟨I,_,_,_,J,_,_,F,A⟩:=BP s.run ids ⟨s,ev,false,start⟩;have q:(mW ⟨s,ev,false,start⟩ ids).s.c=s.c:=I;have l:(mW ⟨s,ev,false,start⟩ ids).s.run=aE s.run ids:=rfl;have C:(mW ⟨s,ev,false,start⟩ ids).s.pend.length=s.pend.length+ids.length:=F;have D:(mW ⟨s,ev,false,start⟩ ids).ev.length=ev.length+ids.length:=A;refine .inr (.inr (.inr ?_));rw [a];generalize mW ⟨s,ev,false,start⟩ ids=R at *
    dsimp only at t i;rcases P6 R p (by rw [q];exact h.c) (by rw [l];exact oX h.run ids) o_ o_ h.pods with ⟨w,k⟩ | ⟨w,k⟩
    .rw [w];exact tP s ev start p ids R f b u R false 0 0 k (.inl ⟨rfl,rfl⟩)
    .exact tP s ev start p ids R f b u (admR R p).1 true 1 1 k (.inr ⟨rfl,rfl⟩)
 .have a:cQ r p=(admR r p).1:=by unfold cQ;rw [if_pos e]
  refine .inr (.inl ?_);rw [a];exact wM r (admR r p).1 p f
def xV(l:a7)(p:Pn):(kG l p).Perm (p::l):=by
 unfold kG;have h:=Bo (Q2.putAt p.q (l.map Pn.q)) l;generalize Hy (Q2.putAt p.q (l.map Pn.q)) l=A at *
 generalize Hj (Q2.putAt p.q (l.map Pn.q)) l=B at *
 rw [<-h,Af];exact Ei
def DV(a:Int):∀ (l:a7) (i:Nat),((∀ p∈l,p.g.id≠a)/\Q2.idx (λ x=>x.id==a) (l.map Pn.q) i= -1)\/∃ A p B,l=A++p::B/\p.g.id=a/\Q2.idx (λ x=>x.id==a) (l.map Pn.q) i=((i+A.length:Nat):Int)
 | [],i=>.inl ⟨λ p hp=>(by cases hp),rfl⟩
 | p::l,i=>by
  rw [Bl];unfold Q2.idx;by_cases h:p.g.id=a
  .right;refine ⟨[],p,l,rfl,h,?_⟩;have e:(p.q.id==a)=true:=by show (p.g.id==a)=true;rw [h];simp
   simp [e]
  .have e:(p.q.id==a)=false:=by show (p.g.id==a)=false;simpa using h
   simp only [e];rcases DV a l (i+1) with ⟨h1,b⟩ | ⟨A,x,B,h1,b,h3⟩
   .left;refine ⟨λ q c=>?_,b⟩;rcases Aw.1 c with rfl | c
    .exact h
    .exact h1 q c
   .right;refine ⟨p::A,x,B,by rw [h1];rfl,b,?_⟩;refine h3.trans ?_;rw [Al];congr 1;omega
def BO(a:Int)(l:a7):((∀ p∈l,p.g.id≠a)/\jI a l= -1)\/∃ A p B,l=A++p::B/\p.g.id=a/\jI a l=(A.length:Int):=by have h:=DV a l 0;simp only [Bp] at h;exact h
def CE{l:a7}{p:Pn}(hp:p∈l)(f:(l.map λ x=>x.g.id).Nodup):(p::dN l p.g.id).Perm l/\∀ q∈l,q≠p->q∈dN l p.g.id:=by
 rcases BO p.g.id l with ⟨h,_⟩ | ⟨A,x,B,h1,d,h3⟩
 .exact absurd rfl (h p hp)
 .have j:x=p:=by
   subst h1;rw [Bm,Bl,Bt] at f;obtain ⟨_,i,c⟩:=f;rw [Cg] at i;rcases Ba.1 hp with hp | hp
   .exact absurd d.symm (c _ (Cm hp) _ (Ao ..))
   .rcases Aw.1 hp with hp | hp
    .exact hp.symm
    .exact absurd (d▸Cm hp) i.1
  subst j;have e:dN l x.g.id=A++B:=by unfold dN;rw [if_neg o_,h3,h1];show (A++x::B).eraseIdx A.length=_;rw [Jf (Bd _),Ml];rfl
  rw [e];refine ⟨by rw [h1];exact Ei.symm,λ q a b=>?_⟩;rw [h1] at a;rcases Ba.1 a with a | a
  .exact Dc _ a
  .rcases Aw.1 a with a | a
   .exact absurd a b
   .exact Cv _ a
def D5{id:Int}(l:a6):∀ (i:Nat) (x:Rn),x∈l->x.g.id=id->0<=aS (bV id) l i:=by
 induction l with
 | nil=>intro i x a;cases a
 | cons y l c=>
  intro i x a h;unfold aS;by_cases b:bV id y=true
  .rw [if_pos b];omega
  .rw [if_neg b];rcases Aw.1 a with e | a
   .exact absurd (by unfold bV;rw [<-e];simpa using h) b
   .exact c (i+1) x a h
def ZK{id:Int}(l:a6):∀ (i:Nat),0<=aS (bV id) l i->aU l (aS (bV id) l i-i).toNat∈l/\(aU l (aS (bV id) l i-i).toNat).g.id=id:=by
 induction l with
 | nil=>intro i h;have h:(0:Int)<= -1:=h;omega
 | cons y l c=>
  intro i h;unfold aS at h⊢;by_cases a:bV id y=true
  .rw [if_pos a];have e:((i:Int)-i).toNat=0:=o_;rw [e];unfold bV at a;exact ⟨Ao ..,(by simpa using a:y.g.id=id)⟩
  .rw [if_neg a] at h⊢;obtain ⟨h1,b⟩:=c (i+1) h;rcases oL (bV id) l (i+1) with h3 | h3
   .omega
   .have e:(aS (bV id) l (i+1)-i).toNat=(aS (bV id) l (i+1)-((i+1:Nat):Int)).toNat+1:=o_;rw [e];exact ⟨Ay _ h1,b⟩
def xOf(run:a6)(id:Int):Rn:=aU run (aS (bV id) run 0).toNat
def lE{run:a6}{id:Int}(h:0<=aS (bV id) run 0):xOf run id∈run/\(xOf run id).g.id=id:=by have a:=ZK run 0 h;have e:(aS (bV id) run 0-((0:Nat):Int)).toNat=(aS (bV id) run 0).toNat:=o_;rw [e] at a;exact a
def HH(run:a6):∀ (ids:aw) (r:Rd),(ids.foldl (dX run) r).s.pend.Perm (ids.map (λ id=>(xOf run id).pn)++r.s.pend)
 | [],r=>Jk _
 | id::ids,r=>by rw [Bc,Bl];refine (HH run ids (dX run r id)).trans ?_;have h:(dX run r id).s.pend=kG r.s.pend (xOf run id).pn:=rfl;rw [h];refine (Du _ (xV _ _)).trans ?_;exact Ei
def aCa{l:a6}(h:IE l):(l.map λ x=>x.g.id).Nodup:=by unfold Lg;rw [Fw];exact Jj (λ h=>h.1) h
def M8{run:a6}(k:IE run){ids:aw}(m:ids.Nodup)(c:∀ id∈ids,0<=aS (bV id) run 0):(ids.map (xOf run)++aE run ids).Perm run:=by
 have d:run.Nodup:=Jj (λ h e=>h.1 (by rw [e])) k;have h1:(ids.map (xOf run)).Nodup:=by unfold Lg;rw [Fw];refine List.Pairwise.imp_of_mem (λ{a b} i j hab e=>hab ?_) m;rw [<-(lE (c a i)).2,<-(lE (c b j)).2,e]
 have l:(aE run ids).Nodup:=d.sublist Iv;refine (List.perm_ext_iff_of_nodup ?_ d).2 λ x=>?_
 .refine Bt.2 ⟨h1,l,λ a i b j e=>?_⟩;obtain ⟨id,hid,rfl⟩:=Ca.1 i;subst e;exact (kC.1 j).2 (by rw [(lE (c id hid)).2];exact hid)
 .constructor
  .intro h;rcases Ba.1 h with h | h
   .obtain ⟨id,hid,rfl⟩:=Ca.1 h;exact (lE (c id hid)).1
   .exact (kC.1 h).1
  .intro h;by_cases f:x.g.id∈ids
   .refine Dc _ (Ca.2 ⟨x.g.id,f,?_⟩);exact aGz k (lE (c _ f)).1 h (lE (c _ f)).2
   .exact Cv _ (kC.2 ⟨h,f⟩)
structure Base(s:Sta):Prop where
 c:s.c.sm
 ids:((s.pend++s.run.map Rn.pn).map λ x=>x.g.id).Nodup
 seqs:((s.pend++s.run.map Rn.pn).map λ x=>x.seq).Nodup
 few:(s.pend++s.run.map Rn.pn).length<=39
 gang:∀ x∈s.pend++s.run.map Rn.pn,(0<=x.g.pods/\x.g.pods<=16)/\bL x.g.need=true/\x.g.id≠0
structure ai(s:Sta)(r:Rd)(rest:a7):Prop where
 c:r.s.c=s.c
 now:r.s.now=s.now
 nxt:r.s.nxt=s.nxt
 hist:r.s.hist=s.hist
 perm:(r.s.pend++r.s.run.map Rn.pn).Perm (s.pend++s.run.map Rn.pn)
 sub:∀ p∈rest,p∈r.s.pend
 rn:rest.Nodup
 start:r.head=false->r.start=0
 hs:∀ x∈r.s.run,x.hs.length<=1048576
def ai.few{s:Sta}{r:Rd}{rest:a7}(b:Base s)(h:ai s r rest):r.s.pend.length+r.s.run.length<=39:=by have:=h.perm.length_eq;have a:=b.few;simp at this a;omega
def ai.sm{s:Sta}{r:Rd}{rest:a7}(b:Base s)(h:ai s r rest):Sm r.s.run:=⟨by have:=h.few b;omega,h.hs⟩
def ai.once{s:Sta}{r:Rd}{rest:a7}(b:Base s)(h:ai s r rest):IE r.s.run:=by have h1:=((h.perm.map λ x=>x.g.id).nodup_iff).2 b.ids;have a:=((h.perm.map λ x=>x.seq).nodup_iff).2 b.seqs;rw [Bm,Bt,Dw] at h1 a;have h1:=h1.2.1;have a:=a.2.1;unfold Lg at h1 a;rw [Fw] at h1 a;exact h1.and a
def ai.pids{s:Sta}{r:Rd}{rest:a7}(b:Base s)(h:ai s r rest):(r.s.pend.map λ x=>x.g.id).Nodup:=by have h1:=((h.perm.map λ x=>x.g.id).nodup_iff).2 b.ids;rw [Bm,Bt] at h1;exact h1.1
def ai.gangP{s:Sta}{r:Rd}{rest:a7}(b:Base s)(h:ai s r rest){p:Pn}(hp:p∈r.s.pend):(0<=p.g.pods/\p.g.pods<=16)/\bL p.g.need=true/\p.g.id≠0:=
 b.gang p (h.perm.mem_iff.1 (Dc _ hp))
def ai.skip{s:Sta}{r:Rd}{p:Pn}{rest:a7}(h:ai s r (p::rest)):ai s r rest:=
 {h with sub:=λ q a=>h.sub q (Ay _ a),rn:=(Cg.1 h.rn).2}
def ai.adm{s:Sta}{r:Rd}{p:Pn}{rest:a7}(b:Base s)(h:ai s r (p::rest)){fl:Int}{hs:aw}(hl:hs.length<=1048576):ai s (P7 r p fl hs) rest where
 c:=h.c
 now:=h.now
 nxt:=h.nxt
 hist:=h.hist
 perm:=by have hp:=(CE (h.sub p (Ao ..)) (h.pids b)).1;show (dN r.s.pend p.g.id++(r.s.run++[_]).map Rn.pn).Perm _;refine Mr ?_ h.perm;rw [Bm,<-Af];refine (Dv (l₂:=[p])).trans ?_;rw [<-Af];exact Dr _ hp
 sub q hq:=(CE (h.sub p (Ao ..)) (h.pids b)).2 q (h.sub q (Ay _ hq)) λ e=>(Cg.1 h.rn).1 (e▸hq)
 rn:=(Cg.1 h.rn).2
 start:=h.start
 hs x hx:=by
  rcases Ba.1 hx with hx | hx
  .exact h.hs x hx
  .rw [Dj.1 hx];exact hl
def ai.evic{s:Sta}{r:Rd}{rest:a7}(b:Base s)(h:ai s r rest){ids:aw}(j:ids.Nodup)(d:∀ id∈ids,0<=aS (bV id) r.s.run 0):ai s (mW r ids) rest:=by
 obtain ⟨o,i,n,k,_,m,g,_,_⟩:=BP r.s.run ids r;have hp:=HH r.s.run ids r;refine ⟨o.trans h.c,i.trans h.now,n.trans h.nxt,k.trans h.hist,?_,λ p a=>hp.mem_iff.2 (Cv _ (h.sub p a)),h.rn,λ e=>?_,λ x l=>h.hs x (Fc.1 l).1⟩
 .show ((ids.foldl (dX r.s.run) r).s.pend++(aE r.s.run ids).map Rn.pn).Perm _;refine Mr ?_ h.perm;refine (Dr _ hp).trans ?_;have f:=(M8 (h.once b) j d).map Rn.pn;rw [Bm,Dw] at f;refine (Dr _ Dv).trans ?_;rw [Af];exact Du _ f
 .show (ids.foldl (dX r.s.run) r).start=0;rw [g];refine h.start ?_;rw [<-m];exact e
def yU{s:Sta}{r:Rd}{rest:a7}(b:Base s)(h:ai s r rest){g:Gan}(j:cM r.s.c r.s.run g=none){ids:aw}(d:gK r.s.c r.s.run g=some ids):
  ids≠[]/\ids.Nodup/\ids.length<=39/\(∀ id∈ids,0<=aS (bV id) r.s.run 0)/\∃ x,cM r.s.c (aE r.s.run ids) g=some x:=by
 obtain ⟨_,h1,f,h3⟩:=AI d;have hl:=aIF (h.once b) d;have a:=h.few b;refine ⟨λ e=>?_,h1,by omega,λ id hid=>?_,Da.1 h3⟩
 .subst e;unfold rW at h3;rw [fS,j] at h3;cases h3
 .obtain ⟨_,x,i,e,_⟩:=f id hid;exact D5 _ 0 x i e
def aGZ{s:Sta}{r:Rd}{p:Pn}{rest:a7}(b:Base s)(h:ai s r (p::rest))(he:r.ev.length<=900000):LookPre r p where
 c:=by rw [h.c];exact b.c
 run:=h.sm b
 pend:=by have:=h.few b;omega
 ev:=he
 pods:=(h.gangP b (h.sub p (Ao ..))).1
 start:=h.start
 cho hf ids hq:=by obtain ⟨a1,_,a3,a4,_⟩:=yU b h hf hq;exact ⟨a1,by omega,a4⟩
def Y1{s:Sta}{r:Rd}{p:Pn}{rest:a7}(b:Base s)(h:ai s r (p::rest)):ai s (cQ r p) rest/\(cQ r p).ev.length<=r.ev.length+40:=by
 have u:=(h.gangP b (h.sub p (Ao ..))).1;have a:=h.skip;have i:∀ {q:Rd},ai s q (p::rest)->ai s (admR q p).1 rest/\(admR q p).1.ev.length<=q.ev.length+1:=λ{q} d=>by
  unfold admR;cases k:cM q.s.c q.s.run p.g with
  | none=>exact ⟨d.skip,Hu _⟩
  | some x=>
   have v:=aDm u k;obtain ⟨fl,hs⟩:=x;unfold FT;dsimp only;split
   .exact ⟨d.skip,Hu _⟩
   .exact ⟨d.adm b v,by show (q.ev++[_]).length<=_;simp⟩
 unfold cQ;split
 .exact ⟨(i h).1,by have:=(i h).2;omega⟩
 .rename_i l;split
  .exact ⟨a,by omega⟩
  .rename_i w;have j:r.head=false:=by cases d:r.head with | false=>rfl | true=>exact absurd d w
   have f:cM r.s.c r.s.run p.g=none:=by
    cases k:cM r.s.c r.s.run p.g with
    | none=>rfl
    | some x=>
     obtain ⟨fl,hs⟩:=x;refine absurd ?_ l;unfold admR;rw [k];unfold FT;dsimp only;rw [j];rfl
   cases d:gK r.s.c r.s.run p.g with
   | none=>
    show ai s (pE r p _) rest/\(pE r p _).ev.length<=_;cases uF r.s.c r.s.now r.s.run p.g with
    | none=>exact ⟨a,by show r.ev.length<=_;omega⟩
    | some n=>exact ⟨⟨a.c,a.now,a.nxt,a.hist,a.perm,a.sub,a.rn,λ e=>(by cases e),a.hs⟩,by show (r.ev++[_]).length<=_;simp⟩
   | some ids=>
    obtain ⟨_,o,A,m,_⟩:=yU b h f d;obtain ⟨t,y⟩:=i (h.evic b o m);refine ⟨t,?_⟩;have z:(mW r ids).ev.length=r.ev.length+ids.length:=(BP r.s.run ids r).2.2.2.2.2.2.2.2;show (admR (mW r ids) p).1.ev.length<=_;omega
def K8(s:Sta)(r:Rd)(rest:a7):Prop:=ai s r rest/\r.ev.length+100*rest.length<=900000
def xR{s:Sta}(b:Base s)(r:Rd)(p:Pn)(rest:a7)(h:K8 s r (p::rest)):K8 s (cQ r p) rest:=by have c:=h.2;rw [Al] at c;obtain ⟨a,h3⟩:=Y1 b h.1;exact ⟨a,by omega⟩
def YG{s:Sta}(b:Base s)(r:Rd)(p:Pn)(rest:a7)(h:K8 s r (p::rest)):BW r p/\K8 s (cQ r p) rest:=by have a:=h.2;rw [Al] at a;exact ⟨aCA r p (aGZ b h.1 o_),xR b r p rest h⟩
structure RunOK(s:Sta):Prop where
 base:Base s
 sm:StaSm' s
 ord:OrdOK s
 at':mO s.pend
 tot:Tot (ltP s) s.pend
def RunOK.start{s:Sta}(h:RunOK s):K8 s ⟨s,[],false,0⟩ (A0 s):=by
 have hp:(A0 s).Perm s.pend:=fG _ _;have b:s.pend.Nodup:=by have:=h.base.ids;rw [Bm,Bt] at this;have:=this.1;unfold Lg at this;rw [Fw] at this;exact Jj (λ h e=>h (by rw [e])) this
 have hl:=h.base.few;rw [Ai] at hl;have a:=hp.length_eq;refine ⟨⟨rfl,rfl,rfl,rfl,Jk _,λ p c=>hp.mem_iff.1 c,hp.symm.nodup b,λ_=>rfl,h.sm.run.2⟩,?_⟩;show 0+_<=_;omega
def lJ(s:Sta):Rd:=(A0 s).foldl cQ ⟨s,[],false,0⟩
def wA{s:Sta}(b:Base s):∀ (L:a7) (r:Rd),K8 s r L->K8 s (L.foldl cQ r) []
 | [],_,h=>h
 | p::L,r,h=>wA b L (cQ r p) (xR b r p L h)
def RunOK.few{s:Sta}(h:RunOK s):s.pend.length<40:=by have:=h.base.few;rw [Ai] at this;omega
def aFX(s:Sta)(h:RunOK s):aq 49 [s.av] [] (.ret (.tup [(lJ s).s.av,.slice 3 (evv (lJ s).ev) .no])) []:=by have a:=h.few;have hl:(A0 s).length=s.pend.length:=(fG _ _).length_eq;exact aIu (K8 s) (YG h.base) s h.sm (A0 s) o_ (aB6 s h.ord a h.at' h.tot) h.start
def dS(s:Sta)(g:Gan):Sta×Int:=
 if eU s.c g≠0 then (s,eU s.c g) else
 if 0<=jI g.id s.pend\/0<=aS (bV g.id) s.run 0 then (s,5) else
 if (cM s.c [] g).isNone=true then (s,6) else
 if 32<=s.pend.length+s.run.length then (s,8) else
 ({s with pend:=kG s.pend ⟨g,s.nxt,s.now⟩,nxt:=s.nxt+1},0)
def rY(l:a6)(t:Int):bg:=(l.filter λ x=>decide (dY x<=t)).map λ x=>⟨3,x.g.id,0⟩
def iP(s:Sta)(n:Int):Sta×bg×Int:=
 if n<1\/1048576<n then (s,[],1) else
 if 1099511627776-n<s.now then (s,[],8) else
 ({s with hist:=tkL s.hist (AX s.c s.run) n s.c.half,now:=s.now+n,run:=atL s.run (s.now+n)},rY s.run (s.now+n),0)
abbrev qV(s:Sta):ab:=.cells 49 s.cs
def aDd{c:Con}{g:Gan}(h:eU c g=0):(0<=g.pods/\g.pods<=16)/\bL g.need=true:=by
 unfold eU at h;split at h
 .rename_i a;unfold KX at a;simp only [Ad,decide_eq_true_eq] at a;exact ⟨⟨by omega,by omega⟩,a.2.1⟩
 .omega
def ZR{x:Rn}{l:a6}{t:Int}(h:dY x<=t):rY (x::l) t=⟨3,x.g.id,0⟩::rY l t:=by unfold rY;rw [Hp,if_pos (decide_eq_true h)];rfl
def ZS{x:Rn}{l:a6}{t:Int}(h:¬ dY x<=t):rY (x::l) t=rY l t:=by unfold rY;rw [Hp,if_neg (by simpa using h)]
def aQ(s:Sta)(x:Cmd):Sta×bg×Int:=
 if C8.chk x≠0 then (s,[],C8.chk x) else
 if x.k=1 then (if bU x.c≠0 then (s,[],bU x.c) else if 0<s.pend.length+s.run.length then (s,[],7) else ({s with c:=x.c,hist:=Aj x.c.ns.length 0},[],0)) else
 if x.k=2 then ((dS s x.g).1,[],(dS s x.g).2) else
 if x.k=5 then iP s x.n else
 if x.k=6 then ((lJ s).s,(lJ s).ev,0) else
 if 0<=aS (bV x.n) s.run 0 then ({s with run:=aE s.run [x.n]},[],0) else
 if x.k=3\/jI x.n s.pend<0 then (s,[],4) else
 ({s with pend:=dN s.pend x.n},[],0)
structure StOK(s:Sta):Prop where
 c:s.c.sm
 run:RunOK s
 half:s.c.half<=9223372036854775807
 nxt:0<=s.nxt/\s.nxt<=1099511627777
def aNs{x:Cmd}(h:C8.chk x=0):1<=x.k/\x.k<=6:=by
 unfold C8.chk at h;split at h
 .rename_i a;simpa using a
 .omega
def nU(s:Sta)(h:StaSm' s):aq 41 [s.av] [] (.ret s.av) []:=by have h1:=KP s.c.ns h.ns;have b:=KQ s.c.hs h.hs;have h3:=S6 s.pend h.pend;have d:=S7 s.hist h.hist;have a:=aA.nil2 (by have h:=oY s.run h.run [] s_;rw [fS] at h;exact h);exact c_ Tryz.f41 λ_=>zW
def aA5(s:Sta)(id:Int)(hl:s.run.length<=1048576):aq 80 [s.av,ii id] [] (.ret (ii (aS (bV id) s.run 0))) []:=by
 have h:=DW _ id (GD id) s.run hl;generalize aS (bV id) s.run 0=r at *
 exact c_ Tryz.f80 λ_=>zW
def aFy:aq 26 [] [] (.ret (Sta.av ⟨⟨[],[],0,0⟩,0,1,[],[],[]⟩)) []:=by exact c_ Tryz.f26 λ_=>zW
abbrev aMf(s S:Sta)(g:Gan)(e:Int):Prop:=aq 45 [.ref 0 0,g.av] [qV s] (.ret (ii e)) [qV S]
set_option maxHeartbeats 2000000 in
def aFs(s:Sta)(g:Gan)(n:s.c.sm)(hp:s.pend.length<=1000000)(hl:s.run.length<=1000000)(w:s.nxt<=1099511627777)(q:0<=s.nxt):aMf s (dS s g).1 g (dS s g).2:=by
 have h1:=L6 s.c g;have u:=aBT s.pend g.id;have h3:=aA5 s g.id o_;have r:(pnv s.pend).length=s.pend.length:=by simp
 have m:(rav s.run).length=s.run.length:=by simp
 unfold dS;by_cases d:eU s.c g≠0
 .rw [if_pos d];have t:(eU s.c g !=0)=true:=by simpa using d
  generalize eU s.c g=e at *
  exact zqya1
 rw [if_neg d];have d:eU s.c g=0:=Fh.1 d;obtain ⟨l,v⟩:=aDd d;rw [d] at h1;have j:=NN s.c n g l;generalize jI g.id s.pend=a at *
 generalize aS (bV g.id) s.run 0=b at *
 by_cases k:0<=a\/0<=b
 .rw [if_pos k];by_cases p:0<=a
  .exact zqya1
  .have o:0<=b:=o_;exact zqya1
 rw [if_neg k];have p:a<0:=o_;have o:b<0:=o_;cases h:(cM s.c [] g).isNone with
 | true=>
  rw [h] at j;rw [if_pos rfl];exact zqya1
 | false=>
  rw [h] at j;rw [if_neg d_];by_cases i:32<=s.pend.length+s.run.length
  .rw [if_pos i];exact zqya1
  .rw [if_neg i];have x:=JD s.pend ⟨g,s.nxt,s.now⟩ hp;generalize kG s.pend ⟨g,s.nxt,s.now⟩=pq at *
   exact zqya1
def aIL(n a b:Int)(r:Bool)(d:(decide (a<=n)&&decide (n<=b))=r):aq 85 [ii n,ii a,ii b] [] (.ret (.bool r)) []:=by
 by_cases h1:a<=n
 .by_cases c:n<=b
  .have e:r=true:=by rw [<-d,decide_eq_true h1,decide_eq_true c];rfl
   subst e;refine c_ Tryz.f85 λ_=>?_
   repeat' first | (refine gN hE ?_;conv=>whnf) | exact rfl | refine zt ?_ | refine zu ?_ ?_ | intro h | fail
   all_goals exact congrArg (λ b=>Res.ret (aa.bool b)) (decide_eq_true c)
  .have e:r=false:=by rw [<-d,decide_eq_true h1,decide_eq_false c];rfl
   subst e;refine c_ Tryz.f85 λ_=>?_
   repeat' first | (refine gN hE ?_;conv=>whnf) | exact rfl | refine zt ?_ | refine zu ?_ ?_ | intro h | fail
   all_goals exact congrArg (λ b=>Res.ret (aa.bool b)) (decide_eq_false c)
 .have e:r=false:=by rw [<-d,decide_eq_false h1];rfl
  subst e;exact c_ Tryz.f85 λ_=>zW
noncomputable abbrev aNc:Func:=Tryz.f48
abbrev aNT(R:Sta)(Q:bg)(e:Int):Goal:=.full 1 (.ret (.tup [.slice 3 (evv Q) .no,ii e])) [qV R]
set_option maxHeartbeats 1000000 in
def aCH(s R:Sta)(hs:Sm s.run)(n:R={s with run:=atL s.run s.now})(Q:bg):∀ (m i:Nat) (ev:bg),i+m=s.run.length->ev.length<=i->ev++rY (s.run.drop i) s.now=Q->
  To (Eo [6] []) aNc (aNT R Q 0) (.head (stk aNc 0) [(0,.ref 0 0),(6,.slice 3 (evv ev) (.own 1 0)),(55,.slice 14 (rav s.run) .no),(56,.int .i64 ((rav s.run).length:Nat)),(57,ii i)] [qV s,evT 0]):=by
 have f:(rav s.run).length=s.run.length:=by simp
 have hl:=hs.1;intro m;induction m with
 | zero=>
  intro i ev k l a;rw [Ah o_] at a;have a:ev++[]=Q:=a;rw [Ar] at a;subst a;have o:=aED s.run hs s.now;generalize atL s.run s.now=ra at *
  subst n;refine gV ?_;exact zW
 | succ m c=>
  intro i ev k l a;have b:i<s.run.length:=o_;rw [Ae b] at a;have get:(rav s.run)[i]? =some s.run[i].av:=dT b;generalize s.run[i]=x at a get;have h:=ED x;have j:(evv ev).length<=1048576:=by simp;omega
  by_cases e:dY x<=s.now
  .rw [ZR e] at a;have next:=c (i+1) (ev++[⟨3,x.g.id,0⟩]) o_ q_ (by rw [Af];exact a)
   have d:evv (ev++[⟨3,x.g.id,0⟩])=evv ev++[Ev.av ⟨3,x.g.id,0⟩]:=by simp
   rw [d] at next
   generalize dY x=t at *
   clear c a d;refine gV ?_;exact zW
  .rw [ZS e] at a;have next:=c (i+1) ev o_ o_ a
   generalize dY x=t at *
   clear c a;refine gV ?_;exact zW
set_option maxHeartbeats 1000000 in
def aCG(s:Sta)(n:Int)(i:s.c.sm)(hs:Sm s.run)(u:LtF s.hist)(a:s.hist.length<=1048576)(l:s.c.half<=9223372036854775807)(p:0<=s.now)(t:s.now<=1099511627776):
  ((iP s n).2.2≠0->aq 48 [.ref 0 0,ii n] [qV s] (.ret (.tup [.slice 3 [] .nil,ii (iP s n).2.2])) [qV (iP s n).1])/\((iP s n).2.2=0->aq 48 [.ref 0 0,ii n] [qV s] (.ret (.tup [.slice 3 (evv (iP s n).2.1) .no,ii 0])) [qV (iP s n).1]):=by
 have k:=aIL n 1 1048576 _ rfl;unfold iP;by_cases d:n<1\/1048576<n
 .rw [if_pos d];have e:(decide (1<=n)&&decide (n<=1048576))=false:=by
   rcases d with q | q
   .rw [decide_eq_false o_];rfl
   .rw [decide_eq_false (show ¬ n<=1048576 by omega),Es]
  rw [e] at k;refine ⟨λ_=>?_,λ h=>by cases h⟩;exact zqya6
 rw [if_neg d];have r:1<=n:=o_;have m:n<=1048576:=o_;rw [decide_eq_true r,decide_eq_true m] at k;by_cases j:1099511627776-n<s.now
 .rw [if_pos j];refine ⟨λ_=>?_,λ h=>by cases h⟩;exact zqya6
 .rw [if_neg j];refine ⟨λ h=>absurd rfl h,λ_=>?_⟩;have b:=aFM s.c s.run;have hsl:(AX s.c s.run).length<=1048576:=by have:=i.ns;unfold AX ofL mN;rw [jO];simp;omega
  have h1:=X9 s.c i s.run hs.1;have v:=aFf s.hist (AX s.c s.run) u a b hsl n s.c.half o_ l;have o:=aCH {s with hist:=tkL s.hist (AX s.c s.run) n s.c.half,now:=s.now+n} {s with hist:=tkL s.hist (AX s.c s.run) n s.c.half,now:=s.now+n,run:=atL s.run (s.now+n)} hs rfl _ s.run.length 0 [] s_ s_ rfl;rw [Cq] at o;generalize tkL s.hist (AX s.c s.run) n s.c.half=th at *
  generalize AX s.c s.run=sh at *
  generalize rY s.run (s.now+n)=Q at *
  generalize atL s.run (s.now+n)=ra at *
  exact zqya6
abbrev W7(s S:Sta)(c:Con)(e:Int):Prop:=aq 44 [.ref 0 0,c.av] [qV s] (.ret (ii e)) [qV S]
def aEd(s:Sta)(c:Con)(a:c.sm)(h:bU c≠0):W7 s s c (bU c):=by
 have h1:=sO c a;generalize bU c=e at *
 have b:(e !=0)=true:=by simpa using h
 exact zqya12
def Z8(s:Sta)(c:Con)(d:c.sm)(h:bU c=0)(hp:s.pend.length<=1000000)(hl:s.run.length<=1000000)(e:0<s.pend.length+s.run.length):W7 s s c 7:=by
 have h1:=sO c d;rw [h] at h1;have a:(pnv s.pend).length=s.pend.length:=by simp
 have b:(rav s.run).length=s.run.length:=by simp
 exact zqya12
def aAr(c:Con):TR c=Aj c.ns.length 0:=by
 unfold TR;have h:∀ (l:bc) (i:Nat),eB (λ_ _=>0) l i=Aj l.length 0:=by
  intro l;induction l with
  | nil=>intro i;rfl
  | cons x l a=>intro i;unfold eB;rw [a];rfl
 exact h _ 0
set_option maxHeartbeats 1000000 in
def aIy(s:Sta)(c:Con)(a:c.sm)(h:bU c=0)(hp:s.pend=[])(hl:s.run=[]):W7 s {s with c:=c,hist:=Aj c.ns.length 0} c 0:=by
 have h1:=sO c a;rw [h] at h1;have k:(pnv s.pend).length=0:=by rw [hp];rfl
 have e:(rav s.run).length=0:=by rw [hl];rfl
 have b:=a.ns;have i:=a.hs;have d:=KP c.ns o_;have h3:=KQ c.hs o_;have j:=aET c a;rw [aAr] at j;generalize Aj c.ns.length 0=z at *
 refine cT (E:=(Er [] [24,38])) (fn:=Tryz.f44) (g:=.full 1 _ _) λ_=>?_
 repeat' first | (refine gN (hEr [] [24,38]) ?_;conv=>whnf) | refine .pure _ [] h1 ?_ | refine .pure _ [] d ?_ | exact rfl | refine zt ?_ | refine zu ?_ ?_ | intro h | fail
 refine .pure _ [] h3 ?_;refine cP (hEr [] [24,38]) 27 ?_;conv=>whnf
 refine To.permAt (hEr [] [24,38]) [0,1,2,3,4,5,6,7,8] [9,10,11,12,13] (by rfl) ?_;conv=>whnf
 refine aL ?_;conv=>whnf;conv=>whnf
 refine aL ?_;conv=>whnf;conv=>whnf
 refine aL ?_;conv=>whnf;conv=>whnf
 refine aL ?_;conv=>whnf;conv=>whnf
 refine aL ?_;conv=>whnf;conv=>whnf
 refine aL ?_;conv=>whnf
 exact zW
abbrev ofC(x:Cmd)(v:aa):Prop:=aq 43 [x.av] [] (.ret v) []
def aNR(x:Cmd)(a:x.k=1):ofC x (.iface 117 (.agg x.c.cs)):=by exact zqya0
def aNQ(x:Cmd)(a:x.k=2):ofC x (.iface 121 (.agg x.g.cs)):=by exact zqya0
def aME(x:Cmd)(a:x.k=3):ofC x (.iface 124 (.agg [ii x.n])):=by exact zqya0
def aKy(x:Cmd)(a:x.k=4):ofC x (.iface 126 (.agg [ii x.n])):=by exact zqya0
def aNP(x:Cmd)(a:x.k=5):ofC x (.iface 130 (.agg [ii x.n])):=by exact zqya0
def aNO(x:Cmd)(a:x.k=6):ofC x (.iface 133 (.agg [])):=by exact zqya0
abbrev kU(s:Sta)(x:Cmd)(R:Sta×bg×Int):Prop:=aq 29 [s.av,x.av] [] (.ret (.tup [R.1.av,.slice 3 (evv R.2.1) .no,ii R.2.2])) []
def aFT(s:Sta)(hs:StaSm' s)(x:Cmd)(e:Int)(a:C8.chk x=e)(h:e≠0):kU s x (s,[],e):=by
 have c:=nU s hs;have h1:=C8.check_any x e a;have b:(e !=0)=true:=by simpa using h
 exact zqya16
set_option maxHeartbeats 1000000 in
def aMr(s:Sta)(hs:StaSm' s)(x:Cmd)(l:C8.chk x=0)(j:x.k=2)(S:Sta)(e:Int)(m:e≠0->S=s)(a:aMf s S x.g e):kU s x (S,[],e):=by
 have d:=nU s hs;have h1:=C8.check_any x 0 l;have c:=aNQ x j;by_cases b:e=0
 .subst b;refine c_ Tryz.f29 λ_=>?_
  repeat' first | (refine gN hE ?_;conv=>whnf) | refine .pure _ [] d ?_ | refine .pure _ [] h1 ?_ | refine .pure _ [] c ?_ | refine .eff [] [4] _ _ rfl a ?_ | exact rfl | refine zt ?_ | refine zu ?_ ?_ | intro h | fail
 .have i:(e !=0)=true:=by simpa using b
  rw [m b] at a⊢;refine c_ Tryz.f29 λ_=>?_
  repeat' first | (refine gN hE ?_;conv=>whnf) | refine .pure _ [] d ?_ | refine .pure _ [] h1 ?_ | refine .pure _ [] c ?_ | refine .eff [] [4] _ _ rfl a ?_ | refine Ac (λ_=>?_) (λ h=>absurd (i.symm.trans h) d_) | exact rfl | refine zt ?_ | refine zu ?_ ?_ | intro h | fail
set_option maxHeartbeats 1000000 in
def aMo(s:Sta)(hs:StaSm' s)(x:Cmd)(b:C8.chk x=0)(a:x.k=6)(S:Sta)(ev:bg)(c:aq 49 [s.av] [] (.ret (.tup [S.av,.slice 3 (evv ev) .no])) []):kU s x (S,ev,0):=by have d:=nU s hs;have h1:=C8.check_any x 0 b;have e:=aNO x a;exact zqya16
set_option maxHeartbeats 1000000 in
def aMp(s:Sta)(hs:StaSm' s)(x:Cmd)(l:C8.chk x=0)(j:x.k=5)(S:Sta)(ev:bg)(e:Int)(m:e≠0->S=s/\ev=[])
  (b:(e≠0->aq 48 [.ref 0 0,ii x.n] [qV s] (.ret (.tup [.slice 3 [] .nil,ii e])) [qV S])/\(e=0->aq 48 [.ref 0 0,ii x.n] [qV s] (.ret (.tup [.slice 3 (evv ev) .no,ii 0])) [qV S])):kU s x (S,ev,e):=by
 have d:=nU s hs;have h1:=C8.check_any x 0 l;have c:=aNP x j;by_cases a:e=0
 .have h3:=b.2 a;subst a;refine c_ Tryz.f29 λ_=>?_
  repeat' first | (refine gN hE ?_;conv=>whnf) | refine .pure _ [] d ?_ | refine .pure _ [] h1 ?_ | refine .pure _ [] c ?_ | refine .eff [] [4] _ _ rfl h3 ?_ | exact rfl | refine zt ?_ | refine zu ?_ ?_ | intro h | fail
 .have i:(e !=0)=true:=by simpa using a
  have h3:=b.1 a;obtain ⟨rfl,rfl⟩:=m a;refine c_ Tryz.f29 λ_=>?_
  repeat' first | (refine gN hE ?_;conv=>whnf) | refine .pure _ [] d ?_ | refine .pure _ [] h1 ?_ | refine .pure _ [] c ?_ | refine .eff [] [4] _ _ rfl h3 ?_ | refine Ac (λ_=>?_) (λ h=>absurd (i.symm.trans h) d_) | exact rfl | refine zt ?_ | refine zu ?_ ?_ | intro h | fail
set_option maxHeartbeats 1000000 in
def aBg(s:Sta)(hs:StaSm' s)(x:Cmd)(m:C8.chk x=0)(l:x.k=1)(S:Sta)(e:Int)(n:e≠0->S=s)(a:W7 s S x.c e):kU s x (S,[],e):=by
 have i:=nU s hs;have h1:=C8.check_any x 0 m;have d:=aNR x l;by_cases b:e=0
 .subst b;refine c_ Tryz.f29 λ_=>?_
  repeat' first | (refine gN hE ?_;conv=>whnf) | refine .pure _ [] i ?_ | refine .pure _ [] h1 ?_ | refine .pure _ [] d ?_ | refine .eff [] [4] _ _ rfl a ?_ | exact rfl | refine zt ?_ | refine zu ?_ ?_ | intro h | fail
 .have j:(e !=0)=true:=by simpa using b
  rw [n b] at a⊢;refine c_ Tryz.f29 λ_=>?_
  repeat' first | (refine gN hE ?_;conv=>whnf) | refine .pure _ [] i ?_ | refine .pure _ [] h1 ?_ | refine .pure _ [] d ?_ | refine .eff [] [4] _ _ rfl a ?_ | refine Ac (λ_=>?_) (λ h=>absurd (j.symm.trans h) d_) | exact rfl | refine zt ?_ | refine zu ?_ ?_ | intro h | fail
def RU(n:Nat)(id:Int)(d:∀ x:Rn,aA Tryz.prog n [x.av,.ptr [ii id]] [] (.ret (.bool (bV id x))) [])(l:a6)(hl:l.length<=1048576)(r:Int):∀ (m i:Nat),i+m=l.length->aS (bV id) (l.drop i) i=r->
  To E HO (.full 1 (.ret (ii r)) (xU l)) (.head (stk HO 0) [(0,.row 0 0),(1,idF n id),(7,.int .i64 ((rav l).length:Nat)),(8,ii i)] (xU l)):=by
 have g:(rav l).length=l.length:=by simp
 intro m;induction m with
 | zero=>
  exact zqya15
 | succ m e=>
  intro i h a;have b:i<l.length:=o_;rw [Ae b] at a;have get:(rav l)[i]? =some l[i].av:=dT b;generalize l[i]=x at a get;unfold aS at a;have f:=d x;have e:=e (i+1) o_;cases c:bV id x with
  | true=>
   exact zqya18
  | false=>
   exact zqya13
def aCW(n:Nat)(id:Int)(a:∀ x:Rn,aA Tryz.prog n [x.av,.ptr [ii id]] [] (.ret (.bool (bV id x))) [])(l:a6)(hl:l.length<=1048576):aq 121 [.row 0 0,idF n id] (xU l) (.ret (ii (aS (bV id) l 0))) (xU l):=by
 have h:=RU n id a l hl _ l.length 0 o_ rfl;rw [Cq] at h;generalize aS (bV id) l 0=r at *
 refine cT (E:=E) (fn:=Tryz.f121) (g:=.full 1 _ _) λ_=>?_;exact zW
def F6(s:Sta)(id:Int)(hl:s.run.length<=1048576):aq 80 [s.avR 0 0,ii id] (xU s.run) (.ret (ii (aS (bV id) s.run 0))) (xU s.run):=by
 have h:=aCW _ id (GD id) s.run hl;generalize aS (bV id) s.run 0=r at *
 refine cT (E:=E) (fn:=Tryz.f80) (g:=.full 1 _ _) λ_=>?_
 repeat' first | (refine gN hE ?_;conv=>whnf) | refine .eff [2] [0] _ _ rfl h ?_ | exact rfl | refine zt ?_ | refine zu ?_ ?_ | intro h | fail
 refine ⟨[],[0],⟨rfl,rfl⟩,rfl,rfl⟩
abbrev BX:aa:=.agg [ii 0,ii 0,ii 0,ii 0,ii 0,ii 0,ii 0,ii 0,ii 0,ii 0,ii 0,ii 0,ii 0,.slice 1 [] .no]
def Q0(xs:a6)(i:Nat)(c:i<xs.length)(e:xs.length<=1000000):aq 83 [.row 0 0,.int .i64 i,.int .i64 ((i:Int)+1)] (xU xs)
  (.ret (.sub 0 0 0 (xs.length-1) 14)) [.row 0 14 68 (rav (xs.eraseIdx i)++[BX])]:=by
 refine cT (E:=E) (fn:=Tryz.f83) (g:=.full 1 _ _) λ_=>gV ?_;refine ⟨i,rfl,gV ?_⟩;refine ⟨i+1,by push_cast;rfl,?_⟩;refine gV ?_;refine ⟨xs.length,by simp,gV ?_⟩;refine ⟨⟨⟨by omega,by omega⟩,by simp⟩,gV ?_⟩;refine ⟨λ h=>?_,λ h=>?_⟩
 .simp at h;omega
 .refine gV ?_;refine ⟨i,rfl,gV ?_⟩;refine ⟨by simp;omega,?_⟩;refine gV ?_;refine ⟨i+1,by push_cast;rfl,?_⟩;refine gV ?_;refine ⟨by simp;omega,?_⟩;refine gV ?_;have a:(rav xs).length=xs.length:=by simp
  have b:(Hy ((rav xs).length-(i+1)) (Hj (i+1) (rav xs))).length=xs.length-(i+1):=by simp
  rw [b,a];refine ⟨by omega,gV ?_⟩;refine ⟨xs.length-1,by omega,gV ?_⟩;refine ⟨xs.length,rfl,gV ?_⟩;refine ⟨by simp;omega,?_⟩;refine gV ?_;refine ⟨[],[0],⟨rfl,rfl⟩,?_⟩;conv=>whnf
  refine ⟨?_,?_⟩
  .show Res.ret (.sub 0 0 0 (i+(xs.length-(i+1))) 14)=_;rw [show i+(xs.length-(i+1))=xs.length-1 from by omega]
  .have h:=Q2.del_list (rav xs) i (by rw [a];exact c) BX;rw [a] at h;have d:(rav xs).eraseIdx i=rav (xs.eraseIdx i):=by simp only [rav,Fz,Bm,Gh,Ix]
   rw [d] at h;exact congrArg (λ l=>[ab.row 0 14 68 l]) h
abbrev aMg(s:Sta)(run:aa):ab:=.cells 49 [.slice 11 (nav s.c.ns) .no,.slice 6 (hav s.c.hs) .no,ii s.c.half,ii s.c.age,ii s.now,ii s.nxt,.slice 11 (pnv s.pend) .no,run,.slice 1 (fv s.hist) .no]
abbrev aJP(s:Sta):au:=[aMg s (.row 1 0),.row 0 14 68 (rav s.run)]
def UI(s:Sta)(id:Int)(hl:s.run.length<=1000000)(h:¬ 0<=aS (bV id) s.run 0):aq 46 [.ref 0 0,ii id] (aJP s) (.ret (ii 4)) (aJP s):=by
 have h1:=F6 s id o_;generalize aS (bV id) s.run 0=a at *
 exact zqya14
def UH(s:Sta)(id:Int)(i:Nat)(hl:s.run.length<=1000000)(a:i<s.run.length)(h:aS (bV id) s.run 0=(i:Int)):aq 46 [.ref 0 0,ii id] (aJP s) (.ret (ii 0)) [aMg s (.sub 1 0 0 (s.run.length-1) 14),.row 0 14 68 (rav (s.run.eraseIdx i)++[BX])]:=by
 have h1:=F6 s id o_;have b:=Q0 s.run i a hl;rw [h] at h1;generalize s.run.length-1=q at *
 generalize rav (s.run.eraseIdx i)++[BX]=K at *
 exact zqya14
set_option maxHeartbeats 1000000 in
def aJ3(s:Sta)(hs:StaSm' s)(x:Cmd)(d:C8.chk x=0)(b:x.k=3)(hl:s.run.length<=1000000)(h:¬ 0<=aS (bV x.n) s.run 0):kU s x (s,[],4):=by
 have e:=BC s hs;have h1:=C8.check_any x 0 d;have c:=aME x b;have a:=UI s x.n hl h;refine c_ Tryz.f29 λ_=>?_
 repeat' first | (refine gN hE ?_;conv=>whnf) | refine .pure _ _ e ?_ | refine .pure _ [] h1 ?_ | refine .pure _ [] c ?_ | refine .eff [] [6,5] _ _ rfl a ?_ | exact rfl | refine zt ?_ | refine zu ?_ ?_ | intro h | fail
def aD8(l:a6)(i:Nat)(a:i<l.length):((rav (l.eraseIdx i)++[BX]).drop 0).take (l.length-1)=rav (l.eraseIdx i):=by
 have h:(rav (l.eraseIdx i)).length=l.length-1:=by simp [Kh,a]
 rw [Cq,<-h,List.take_left'];rfl
set_option maxHeartbeats 1000000 in
def aMq(s:Sta)(hs:StaSm' s)(x:Cmd)(j:C8.chk x=0)(d:x.k=3)(hl:s.run.length<=1000000)(i:Nat)(b:i<s.run.length)(h:aS (bV x.n) s.run 0=(i:Int)):kU s x ({s with run:=s.run.eraseIdx i},[],0):=by
 have l:=BC s hs;have h1:=C8.check_any x 0 j;have e:=aME x d;have c:=UH s x.n i hl b h;have a:=aD8 s.run i b;unfold kU Sta.av Sta.cs;dsimp only;rw [<-a];generalize s.run.length-1=q at *
 generalize rav (s.run.eraseIdx i)++[BX]=K at *
 clear a;refine c_ Tryz.f29 λ_=>?_
 repeat' first | (refine gN hE ?_;conv=>whnf) | refine .pure _ _ l ?_ | refine .pure _ [] h1 ?_ | refine .pure _ [] e ?_ | refine .eff [] [6,5] _ _ rfl c ?_ | exact rfl | refine zt ?_ | refine zu ?_ ?_ | intro h | fail
set_option maxHeartbeats 1000000 in
def aJ0(s:Sta)(hs:StaSm' s)(x:Cmd)(b:C8.chk x=0)(a:x.k=4)(hp:s.pend.length<=1000000)(h:¬ jI x.n s.pend<0):kU s x ({s with pend:=dN s.pend x.n},[],0):=by
 have d:=nU s hs;have h1:=C8.check_any x 0 b;have e:=aKy x a;have c:=rI s.pend x.n hp;rw [decide_eq_false h] at c;generalize dN s.pend x.n=pq at *
 exact zqya16
def LT{l:a7}{a:Int}(h:jI a l<0):dN l a=l:=by unfold dN;rw [if_pos h]
set_option maxHeartbeats 1000000 in
def aJ2(s:Sta)(hs:StaSm' s)(x:Cmd)(i:C8.chk x=0)(c:x.k=4)(hp:s.pend.length<=1000000)(hl:s.run.length<=1000000)(h:jI x.n s.pend<0)(d:¬ 0<=aS (bV x.n) s.run 0):kU s x (s,[],4):=by
 have j:=BC s hs;have h1:=C8.check_any x 0 i;have e:=aKy x c;have a:=rI s.pend x.n hp;rw [decide_eq_true h,LT h] at a;have b:=UI s x.n hl d;refine c_ Tryz.f29 λ_=>?_
 repeat' first | (refine gN hE ?_;conv=>whnf) | refine .pure _ _ j ?_ | refine .pure _ [] h1 ?_ | refine .pure _ [] e ?_ | refine .pure _ [] a ?_ | refine .eff [] [6,5] _ _ rfl b ?_ | exact rfl | refine zt ?_ | refine zu ?_ ?_ | intro h | fail
set_option maxHeartbeats 1000000 in
def aJ1(s:Sta)(hs:StaSm' s)(x:Cmd)(m:C8.chk x=0)(e:x.k=4)(hp:s.pend.length<=1000000)(hl:s.run.length<=1000000)(h:jI x.n s.pend<0)(i:Nat)(c:i<s.run.length)(j:aS (bV x.n) s.run 0=(i:Int)):kU s x ({s with run:=s.run.eraseIdx i},[],0):=by
 have o:=BC s hs;have h1:=C8.check_any x 0 m;have l:=aKy x e;have a:=rI s.pend x.n hp;rw [decide_eq_true h,LT h] at a;have d:=UH s x.n i hl c j;have b:=aD8 s.run i c;unfold kU Sta.av Sta.cs;dsimp only;rw [<-b];generalize s.run.length-1=q at *
 generalize rav (s.run.eraseIdx i)++[BX]=K at *
 clear b;refine c_ Tryz.f29 λ_=>?_
 repeat' first | (refine gN hE ?_;conv=>whnf) | refine .pure _ _ o ?_ | refine .pure _ [] h1 ?_ | refine .pure _ [] l ?_ | refine .pure _ [] a ?_ | refine .eff [] [6,5] _ _ rfl d ?_ | exact rfl | refine zt ?_ | refine zu ?_ ?_ | intro h | fail
def aJk(id:Int):∀ (l:a6) (k i:Nat),(l.map λ x=>x.g.id).Nodup->aS (bV id) l k=((k+i:Nat):Int)->l.eraseIdx i=aE l [id]
 | [],k,i,_,h=>by have h:(-1:Int)=((k+i:Nat):Int):=h;omega
 | x::l,k,i,hn,h=>by
  rw [Bl,Cg] at hn;unfold aS at h;by_cases b:bV id x=true
  .rw [if_pos b] at h;obtain rfl:i=0:=o_;have a:x.g.id=id:=by unfold bV at b;simpa using b
   have h1:inB x.g.id [id]=true:=BK.2 (by rw [a];exact Je _);rw [mQ h1];show l=_;refine (Gs.2 λ y f=>?_).symm;have:y.g.id≠id:=λ e=>hn.1 (by rw [a,<-e];exact Cm f);cases c:inB y.g.id [id] with
   | false=>rfl
   | true=>exact absurd (by simpa using BK.1 c) this
  .rw [if_neg b] at h;rcases oL (bV id) l (k+1) with d | d
   .omega
   .obtain ⟨j,rfl⟩:∃ j,i=j+1:=⟨i-1,by omega⟩
    have h1:inB x.g.id [id]=false:=by
     cases c:inB x.g.id [id] with
     | false=>rfl
     | true=>exact absurd (by unfold bV;simpa using BK.1 c) b
    rw [mP h1];show x::l.eraseIdx j=_;rw [aJk id l (k+1) j hn.2 (by rw [h];congr 1;omega)]
def aIJ{s:Sta}(b:Base s){n:Int}(h1:¬ jI n s.pend<0)(c:0<=aS (bV n) s.run 0):False:=by
 obtain ⟨d,i⟩:=lE c;rcases BO n s.pend with ⟨_,h⟩ | ⟨A,p,B,e,hp,_⟩
 .omega
 .have a:=b.ids;rw [Bm,Bt] at a;exact a.2.2 n (by rw [e,<-hp];exact Cm (Cv _ (Ao ..))) n (by rw [<-i,Dw];exact Cm (f:=(λ x=>x.g.id) ∘ Rn.pn) d) rfl
def aAZ(s:Sta)(g:Gan):(dS s g).2≠0->(dS s g).1=s:=by
 unfold dS;iterate 4 (split;· exact λ_=>rfl)
 exact λ h=>absurd rfl h
def XZ(s:Sta)(n:Int):(iP s n).2.2≠0->(iP s n).1=s/\(iP s n).2.1=[]:=by
 unfold iP;iterate 2 (split;· exact λ_=>⟨rfl,rfl⟩)
 exact λ h=>absurd rfl h
def GC(s:Sta)(x:Cmd)(h:StOK s)(A:x.k=1->x.c.sm):kU s x (aQ s x):=by
 have a:=h.run.sm;have w:=h.run.base.few;have q:=aCa (ai.once h.run.base (s:=s) (r:=⟨s,[],false,0⟩) (rest:=[]) ⟨rfl,rfl,rfl,rfl,Jk _,λ p hp=>(by cases hp),Hq,λ_=>rfl,a.run.2⟩);rw [Ai,Cc] at w;unfold aQ;by_cases b:C8.chk x≠0
 .rw [if_pos b];exact aFT s a x _ rfl b
 rw [if_neg b];have b:C8.chk x=0:=Fh.1 b;have C:=aNs b;by_cases m:x.k=1
 .rw [if_pos m];have j:=A m;by_cases d:bU x.c≠0
  .rw [if_pos d];exact aBg s a x b m _ _ (λ_=>rfl) (aEd s x.c j d)
  rw [if_neg d];have d:bU x.c=0:=Fh.1 d;by_cases f:0<s.pend.length+s.run.length
  .rw [if_pos f];exact aBg s a x b m _ _ (λ_=>rfl) (Z8 s x.c j d o_ o_ f)
  .rw [if_neg f];exact aBg s a x b m _ _ (λ e=>absurd rfl e) (aIy s x.c j d (Cl.1 o_) (Cl.1 o_))
 rw [if_neg m];by_cases d:x.k=2
 .rw [if_pos d];exact aMr s a x b d _ _ (aAZ s x.g) (aFs s x.g h.c o_ o_ h.nxt.2 h.nxt.1)
 rw [if_neg d];by_cases v:x.k=5
 .rw [if_pos v];exact aMp s a x b v _ _ _ (XZ s x.n) (aCG s x.n h.c a.run h.run.ord.lt h.run.ord.hl h.half h.run.ord.now.1 h.run.ord.now.2)
 rw [if_neg v];by_cases u:x.k=6
 .rw [if_pos u];exact aMo s a x b u _ _ (aFX s h.run)
 rw [if_neg u];by_cases l:0<=aS (bV x.n) s.run 0
 .rw [if_pos l]
  obtain ⟨i,y⟩:∃ i:Nat,aS (bV x.n) s.run 0=(i:Int):=⟨_,(Kw l).symm⟩
  have o:i<s.run.length:=by rcases oL (bV x.n) s.run 0 with z | z<;>omega
  rw [<-aJk x.n s.run 0 i q (by rw [y];congr 1;omega)];by_cases f:x.k=3
  .exact aMq s a x b f o_ i o y
  .have B:jI x.n s.pend<0:=Li λ e=>aIJ h.run.base e l;exact aJ1 s a x b o_ o_ o_ B i o y
 rw [if_neg l];by_cases t:x.k=3\/jI x.n s.pend<0
 .rw [if_pos t];by_cases f:x.k=3
  .exact aJ3 s a x b f o_ l
  .exact aJ2 s a x b o_ o_ o_ (t.resolve_left f) l
 .rw [if_neg t];exact aJ0 s a x b o_ o_ o_
def tF:Sta:=⟨⟨[],[],0,0⟩,0,1,[],[],[]⟩
def CF{f:Rn->Int}(q:Rn->Bool):∀ {l:a6},(∀ x∈l,0<=f x)->cI ((l.filter q).map f)<=cI (l.map f)
 | [],_=>De _
 | x::l,h=>by
  have d:=CF q (l:=l) λ y b=>h y (Ay _ b);have c:=h x (Ao ..);have e:cI ((x::l).map f)=f x+cI (l.map f):=rfl;by_cases a:q x=true
  .rw [Ft a,e];show f x+cI _<=_;omega
  .rw [Fs a,e];omega
def LV{f:Rn->Int}{x:Rn}:∀ {l:a6},cI ((l++[x]).map f)=cI (l.map f)+f x
 | []=>by show f x+0=0+f x;omega
 | y::l=>by show f y+cI ((l++[x]).map f)=f y+cI (l.map f)+f x;rw [LV];omega
def PG{c:Con}{free:a8}{g:Gan}{hs:aw}:qO c free g hs=true↔(hs.length:Int)=g.pods/\(∃ G∈gpL c g.lev,∀ u∈hs,u∈G)/\∀ u∈hs,0<=u/\u<(free.length:Int)/\((hs.count u:Nat):Int)<=eP ((free[u.toNat]?).getD V3.zero) g.need:=by
 constructor
 .intro h;obtain ⟨h1,f⟩:=KS h;refine ⟨h1,?_,f⟩;unfold qO at h;rw [if_pos h1,Fq] at h;obtain ⟨G,i,h⟩:=h;unfold chkG at h;rw [Ad] at h;exact ⟨G,i,vF.1 h.1⟩
 .intro ⟨h1,⟨G,i,f⟩,h3⟩;unfold qO;rw [if_pos h1,Fq];refine ⟨G,i,?_⟩;unfold chkG;rw [vF.2 f,Cz];unfold D4;rw [Cr];intro u j;obtain ⟨a,b,d⟩:=h3 u j;unfold aDo;rw [if_neg q_,if_neg q_];have e:A5 u hs=((hs.count u:Nat):Int):=by unfold A5;rw [yS];omega
  rw [e];simp;omega
def aBt{free need:V3}{n:Int}(e:bL need=true)(h1:1<=n)(f:n<=16):n<=eP free need↔need.a*n<=free.a/\need.b*n<=free.b/\need.c*n<=free.c:=by
 constructor
 .exact sM e h1
 .intro ⟨a,b,d⟩;obtain ⟨k,g,i⟩:=cC e;have key:∀ x y:Int,0<=x->x*n<=y->x<=y:=λ x y j h=>by have:x*1<=x*n:=Km h1 j;omega
  have l:cS need free=true:=FZ.2 ⟨key _ _ k.1 a,key _ _ g.1 b,key _ _ i.1 d⟩;exact (US e l n).2 ⟨f,a,b,d⟩
structure am(g:Gan):Prop where
 v:bL g.need=true
 pods:1<=g.pods/\g.pods<=16
 lev:0<=g.pref/\g.pref<=g.lev/\g.lev<=3
 run:1<=g.run/\g.run<=1048576
 id:1<=g.id
def iI{c:Con}{g:Gan}(h:eU c g=0):am g:=by obtain ⟨h1,_⟩:=oJ.1 h;unfold KX at h1;simp only [Ad,decide_eq_true_eq] at h1;exact ⟨h1.2.1,by omega,by omega,by omega,by omega⟩
def sD(p:V3->Int)(c:Con)(l:a6):Prop:=∀ j:Nat,j<c.hs.length->cI (l.map (vS p (j:Int)))<=p (bK c.hs (j:Int)).c
def aJq(c:Con)(r:Rn):Prop:=(r.hs.length:Int)=r.g.pods/\(∃ G∈gpL c r.g.lev,∀ u∈r.hs,u∈G)/\∀ u∈r.hs,0<=u/\u<(c.hs.length:Int)
structure HstOK(c:Con)(l:a6):Prop where
 a:sD V3.a c l
 b:sD V3.b c l
 d:sD V3.c c l
def sD.filter{p:V3->Int}{c:Con}{l:a6}(q:Rn->Bool)(a:∀ v,bL v=true->0<=p v)(b:∀ x∈l,am x.g)(h:sD p c l):sD p c (l.filter q):=λ j d=>
 Fl (CF q λ x e=>Lb (a _ (b x e).v) o_) (h j d)
def HstOK.filter{c:Con}{l:a6}(q:Rn->Bool)(f:∀ x∈l,am x.g)(h:HstOK c l):HstOK c (l.filter q):=
 ⟨h.a.filter q (λ_ e=>(cC e).1.1) f,h.b.filter q (λ_ e=>(cC e).2.1.1) f,h.d.filter q (λ_ e=>(cC e).2.2.1) f⟩
def aLI{c:Con}{l:a6}(F:bU c=0)(n:∀ x∈l,am x.g)(z:(l.map λ x=>x.g.id).Nodup)(k:HstOK c l){r:Rn}(m:r∈l)(hp:aJq c r):qO c (kI c (l.filter λ x=>!(x.g.id==r.g.id))) r.g r.hs=true:=by
 obtain ⟨G,w,A⟩:=hp;refine PG.2 ⟨G,w,λ u o=>?_⟩;obtain ⟨B,t⟩:=A u o;rw [wY];refine ⟨B,t,?_⟩;have q:=n r m;have s:0<r.hs.count u:=Le.2 o;have y:r.hs.count u<=r.hs.length:=Mx;have C:=q.pods;refine (aBt q.v o_ o_).2 ?_
 obtain ⟨j,rfl⟩:∃ j:Nat,u=(j:Int):=⟨u.toNat,by omega⟩
 have i:j<c.hs.length:=o_;have key:∀ p:V3->Int,Prj p->(∀ v,bL v=true->0<=p v/\p v<=1048576)->sD p c l->p r.g.need*((r.hs.count (j:Int):Nat):Int)<=p (((kI c (l.filter λ x=>!(x.g.id==r.g.id)))[(j:Int).toNat]?).getD V3.zero):=λ p hp h hs=>by rw [Bv,WG hp (λ j i=>h _ (TG F i)) (λ x D=>h _ (n x (Fc.1 D).1).v) i];have h1:=hs j i;rw [UD (f:=vS p (j:Int)) m z] at h1;have e:vS p (j:Int) r=p r.g.need*((r.hs.count (j:Int):Nat):Int):=rfl;rw [<-e];omega
 exact ⟨key _ aGs (λ_ h=>(cC h).1) k.a,key _ aGr (λ_ h=>(cC h).2.1) k.b,key _ aGq (λ_ h=>(cC h).2.2) k.d⟩
def sD.more{p:V3->Int}{c:Con}{l:a6}{x:Rn}(hp:Prj p)(o:bU c=0)(d:∀ v,bL v=true->0<=p v/\p v<=1048576)(k:∀ free need (n:Int),bL need=true->1<=n->n<=eP free need->p need*n<=p free)(m:∀ y∈l,am y.g)(b:am x.g)
  (f:∀ u∈x.hs,((x.hs.count u:Nat):Int)<=eP (((kI c l)[u.toNat]?).getD V3.zero) x.g.need) (h:sD p c l):sD p c (l++[x]):=by
 intro j a;rw [LV];have q:=h j a;have e:vS p (j:Int) x=p x.g.need*((x.hs.count (j:Int):Nat):Int):=rfl;by_cases hm:(j:Int)∈x.hs
 .have i:0<x.hs.count (j:Int):=Le.2 hm;have h1:=k _ _ _ b.v o_ (f _ hm);rw [Bv,WG hp (λ j a=>d _ (TG o a)) (λ x b=>d _ (m x b).v) a,<-e] at h1;have hz:0<=vS p (j:Int) x:=Lb (d _ b.v).1 o_;unfold dE at h1;omega
 .rw [e,Lc.2 hm];simp;omega
def HstOK.more{c:Con}{l:a6}{x:Rn}(m:bU c=0)(j:∀ y∈l,am y.g)(k:am x.g)(f:∀ u∈x.hs,((x.hs.count u:Nat):Int)<=eP (((kI c l)[u.toNat]?).getD V3.zero) x.g.need)(h:HstOK c l):HstOK c (l++[x]):=
 ⟨h.a.more aGs m (λ_ e=>(cC e).1) (λ_ _ _ e h1 i=>(sM e h1 i).1) j k f,h.b.more aGr m (λ_ e=>(cC e).2.1) (λ_ _ _ e h1 i=>(sM e h1 i).2.1) j k f,h.d.more aGq m (λ_ e=>(cC e).2.2) (λ_ _ _ e h1 i=>(sM e h1 i).2.2) j k f⟩
def tZ(c:Con)(l:a6):Prop:=∀ i:Nat,i<c.ns.length->cS (atV (ofL c l) (i:Int)) (qA c (i:Int))=true
def aGi{s:Sta}:MR s=true↔tZ s.c s.run:=by unfold MR tZ;rw [Cr];exact ⟨λ h i a=>h i (Ho.2 a),λ h i a=>h i (Ho.1 a)⟩
def am.dem{g:Gan}(h:am g):(dem g).pos:=aIo h.v ⟨by have:=h.pods;omega,h.pods.2⟩
def tZ.filter{c:Con}{l:a6}(q:Rn->Bool)(b:∀ x∈l,am x.g)(h:tZ c l):tZ c (l.filter q):=λ i a=>
 vJ.2 ((aGA (λ x d=>(b x d).dem) q (i:Int)).2.1.trans (vJ.1 (h i a)))
def tZ.more{c:Con}{l:a6}{x:Rn}(j:∀ y∈l,am y.g)(k:am x.g)(hm:NQ c (ofL c l) x.g.ten (Go.Proofs.YtaeegbkbahgjhaaGreatDoor.dem x.g)=true)(hl:bD c.ns x.g.ten=true)(h:tZ c l):tZ c (l++[x]):=by
 intro i f;by_cases hp:(i:Int)∈fI c.ns x.g.ten
 .have h1:=(MQ (λ y m=>(j y m).dem) k.dem hm _ hp).2;have e:VC c x.g.ten (i:Int)=qA c (i:Int):=by
   unfold VC qA;by_cases b:(i:Int)=x.g.ten
   .rw [if_pos b,b,if_pos hl]
   .rw [if_neg b,if_neg];intro d;unfold fI at hp;rw [Ir] at hp;exact b (VH d hp)
  rw [<-e];exact h1
 .have e:atV (ofL c (l++[x])) (i:Int)=atV (ofL c l) (i:Int):=by
   have a:c.ok (i:Int):=⟨by omega,by simpa using f⟩
   rw [zX a,zX a,Jm];show oZ c _ _ x=_;unfold oZ;rw [if_neg];intro n;exact hp (by unfold fI;rw [Ir];simpa using n.2)
  rw [e];exact h i f
def GM:∀ {l ns:bc} {i:Nat},kM ns i l=true->∀ k (h:k<l.length),oC (rlB ns ((i+k:Nat):Int)) (i+k) l[k]=true
 | [],_,_,_,k,h=>absurd h (Nat.not_lt_zero _)
 | x::l,ns,i,h0,k,h=>by
  unfold kM at h0;by_cases a:oC (rlB ns i) i x=true
  .rw [if_pos a] at h0;cases k with
   | zero=>exact a
   | succ k=>
    have:=GM h0 k (by simpa using h);rw [show i+1+k=i+(k+1) from by omega] at this;exact this
  .rw [if_neg a] at h0;cases h0
def AJ{c:Con}(h:bU c=0):AV c/\kM c.ns 0 c.ns=true/\c.hs.all lT=true:=by
 unfold bU at h;split at h
 .split at h
  .split at h
   .exact ⟨by assumption,by assumption,by assumption⟩
   .omega
  .omega
 .omega
def F1{v:V3}(h:bL v=true):v.pos:=by obtain ⟨a,b,d⟩:=cC h;exact ⟨a.1,b.1,d.1⟩
def NI{c:Con}(h:bU c=0){i:Nat}(a:i<c.ns.length):(cY c.ns (i:Int)).n.pos/\(cY c.ns (i:Int)).b.pos:=by
 have h1:=GM (AJ h).2.1 i a;have e:cY c.ns (i:Int)=c.ns[i]:=by unfold cY;rw [Bv,Aa a];rfl
 rw [e];unfold oC at h1;have f:∀ v:V3,zB v=true->v.pos:=λ v d=>by unfold zB at d;simp at d;exact ⟨by omega,by omega,by omega⟩
 split at h1
 .cases h1
 .split at h1
  .simp only [Ad] at h1;exact ⟨F1 h1.1,F1 h1.2.1⟩
  .simp only [Ad] at h1;exact ⟨f _ h1.1,f _ h1.2.1⟩
def aBS{c:Con}(h:bU c=0):tZ c []:=by
 intro i k
 have f:c.ok (i:Int):=⟨by omega,by simpa using k⟩
 rw [zX f];have hs:∀ p:V3->Int,Prj p->(∀ v:V3,v.pos->0<=p v)->0<=p (qA c (i:Int)):=λ p hp j=>by
  have g:0<=p (lG c.ns (i:Int) (qH c.ns))/\p (lG c.ns (i:Int) (qH c.ns))<=dE:=by
   unfold lG;have hz:=hp.zero;have a:∀ e∈(bQ c.ns (i:Int)).map λ t=>p (atV (qH c.ns) t),0<=e:=λ e m=>by
    obtain ⟨t,l,rfl⟩:=Ca.1 m;have b:=lD c (i:Int) t l;rw [aCj b];have d:t=(t.toNat:Int):=by have:=b.1;omega
    rw [d];exact j _ (NI h b.2).1
   rw [IU hp,hz,vZ (De _) d_ a];have:=lH a;unfold dE;omega
  unfold qA;split
  .rw [hp.add];have h1:=j _ (NI h k).2;rw [sC g.1 g.2 h1];unfold dE;omega
  .exact g.1
 exact vJ.2 ⟨hs _ aGs λ_ h=>h.1,hs _ aGr λ_ h=>h.2.1,hs _ aGq λ_ h=>h.2.2⟩
def ZJ{c:Con}{free:a8}{g:Gan}(A:1<=g.pods)(hl:0<=g.pref/\g.pref<=g.lev/\g.lev<=3){x:Int×aw}(h:AF c free g=some x):(bK c.hs (x.2.headD 0)).f=x.1:=by
 have d:∀ (j:List aw),fdG c free g j=some x->∃ a∈j,x=((bK c.hs (a.headD 0)).f,inL free g a)/\¬ ((inL free g a).length:Int)<g.pods:=λ j=>by
  induction j with
  | nil=>intro h;cases h
  | cons a r k=>
   intro h;unfold fdG at h;by_cases h1:((inL free g a).length:Int)<g.pods
   .rw [if_pos (decide_eq_true h1)] at h;obtain ⟨q,s,p⟩:=k h;exact ⟨q,Ay _ s,p⟩
   .rw [if_neg (by rw [decide_eq_false h1];decide)] at h;cases h;exact ⟨a,Ao ..,rfl,h1⟩
 have e:∀ (n:Nat) (lv:Int),fdL c free g n lv=some x->∃ b,lv<=b/\b<lv+n/\fdG c free g (gpL c b)=some x:=λ n=>by
  induction n with
  | zero=>intro lv h;cases h
  | succ n k=>
   intro lv h;unfold fdL at h;cases i:fdG c free g (gpL c lv) with
   | some y=>
    rw [i] at h;cases h;exact ⟨lv,De _,by omega,i⟩
   | none=>
    rw [i] at h;obtain ⟨b,s,p,z⟩:=k (lv+1) h;exact ⟨b,by omega,by omega,z⟩
 unfold AF at h;obtain ⟨b,l1,l2,u⟩:=e _ _ h;obtain ⟨a,v,rfl,o⟩:=d _ u;have l:(inL free g a).headD 0∈a:=by
  have hm:(inL free g a).headD 0∈inL free g a:=by
   cases i:inL free g a with
   | nil=>rw [i] at o;simp at o;omega
   | cons y t=>exact Ao ..
  rcases RT a [] _ hm with h | h
  .cases h
  .exact h.1
 obtain ⟨_,w⟩:=J6 (c:=c) (lv:=b) o_ o_;have m:=(K6 o_ o_).1 ((w a v).2.2 _ l).2.2;unfold qJ ofK at m;exact (Ng m).1.symm
abbrev Srt(l:a7):Prop:=l.Pairwise λ a b=>a.seq<b.seq
structure RunP(c:Con)(now:Int)(l:a6):Prop where
 time:∀ r∈l,r.at'<=r.st/\r.st<=now/\now<dY r/\(bK c.hs (r.hs.headD 0)).f=r.fl
 plc:∀ r∈l,aJq c r
 hst:HstOK c l
 quo:tZ c l
def XL(c:Con)(nxt now:Int)(x:Pn):Prop:=eU c x.g=0/\(cM c [] x.g).isNone=false/\(0<=x.seq/\x.seq<nxt)/\0<=x.at'/\x.at'<=now
structure OkS(s:Sta):Prop where
 head:fZ s.c=true\/bU s.c=0
 now:0<=s.now/\s.now<=1099511627776
 nxt:1<=s.nxt/\s.nxt<=1099511627776
 hist:s.hist.length=s.c.ns.length
 few:s.pend.length+s.run.length<=32
 row:Srt s.pend
 gang:∀ x∈s.pend++s.run.map Rn.pn,XL s.c s.nxt s.now x
 ids:((s.pend++s.run.map Rn.pn).map λ x=>x.g.id).Nodup
 seqs:((s.pend++s.run.map Rn.pn).map λ x=>x.seq).Nodup
 run:RunP s.c s.now s.run
def UK{l:a7}:(l.map Pn.q).Pairwise (λ a b=>a.seq<b.seq)↔Srt l:=by rw [Fw];exact Np
def aF5{l:a7}(h:(l.map λ x=>x.g.id).Nodup):aBr l=true↔Srt l:=by
 unfold aBr;rw [Q2.check_good];constructor
 .exact λ g=>UK.1 g.seq
 .refine λ g=>⟨UK.2 g,?_⟩
  rw [Fw];unfold Lg at h;rw [Fw] at h;exact h
def VL(p:Q2.Pend):∀ {l:List Q2.Pend},l.Pairwise (λ a b=>a.seq<b.seq)->(∀ x∈l,x.seq≠p.seq)->(Q2.insP p l).Pairwise (λ a b=>a.seq<b.seq)/\∀ x∈Q2.insP p l,x=p\/x∈l
 | [],_,_=>⟨Jd _ _,λ x c=>.inl (Dj.1 c)⟩
 | y::r,h,hn=>by
  rw [Cb] at h;unfold Q2.insP;by_cases d:p.seq<y.seq
  .rw [if_pos d];refine ⟨Cb.2 ⟨λ z hz=>?_,Cb.2 h⟩,λ x c=>Aw.1 c⟩;rcases Aw.1 hz with rfl | hz
   .exact d
   .have:=h.1 z hz;omega
  .rw [if_neg d];obtain ⟨h1,e⟩:=VL p h.2 λ x c=>hn x (Ay _ c);have f:=hn y (Ao ..);refine ⟨Cb.2 ⟨λ z hz=>?_,h1⟩,λ x c=>?_⟩
   .rcases e z hz with rfl | hz
    .omega
    .exact h.1 z hz
   .rcases Aw.1 c with rfl | c
    .exact .inr (Ao ..)
    .rcases e x c with rfl | c
     .exact .inl rfl
     .exact .inr (Ay _ c)
def UZ{l:a7}{p:Pn}(h:Srt l)(a:∀ x∈l,x.seq≠p.seq):Srt (kG l p):=by refine UK.1 ?_;rw [aBV,Q2.putP_ins];refine (VL p.q (UK.2 h) λ x c=>?_).1;obtain ⟨y,b,rfl⟩:=Ca.1 c;exact a y b
def LS{l:a7}{a:Int}(h:Srt l):Srt (dN l a):=by
 unfold dN;split
 .exact h
 .exact h.sublist (List.eraseIdx_sublist ..)
structure SizOK(c:Con):Prop where
 ns:c.ns.length<=12
 hs:c.hs.length<=24
 half:0<=c.half/\c.half<=1048576
 age:0<=c.age/\c.age<=1048576
def HS{c:Con}:fZ c=true↔c=⟨[],[],0,0⟩:=by obtain ⟨a,b,d,e⟩:=c;unfold fZ;simp
def wT{c:Con}(h:fZ c=true\/bU c=0):SizOK c:=by
 rcases h with h | h
 .rw [HS] at h;subst h;exact ⟨by simp,by simp,by decide,by decide⟩
 .have h1:=(AJ h).1;unfold AV at h1;exact ⟨by omega,by omega,by omega,by omega⟩
def SD{c:Con}(h:fZ c=true)(g:Gan):eU c g≠0:=by rw [HS] at h;subst h;intro e;have h1:=(oJ.1 e).2;unfold bD at h1;simp at h1;omega
def DJ{c:Con}(h:fZ c=true\/bU c=0){g:Gan}(a:eU c g=0):bU c=0:=h.resolve_left λ e=>SD e g a
def aKS(s:Sta):ids s=(s.pend++s.run.map Rn.pn).map λ x=>x.g.id:=by unfold ids;rw [Bm,Dw];rfl
def aFO(s:Sta):seqs s=(s.pend++s.run.map Rn.pn).map λ x=>x.seq:=by unfold seqs;rw [Bm,Dw];rfl
def aB0{s:Sta}{p:Pn}:pnB s p=true↔XL s.c s.nxt s.now p:=by unfold pnB XL;simp only [Ad,decide_eq_true_eq,Cw]
def KR{s:Sta}(h:OkS s):mM s=true:=by have a:=h.ids;rw [Bm,Bt] at a;unfold mM OC;simp only [Ad,Fb,decide_eq_true_eq,Cr];refine ⟨⟨h.head,h.now,h.nxt,h.hist,h.few⟩,(aF5 a.1).2 h.row,⟨λ p hp=>aB0.2 (h.gang p (Dc _ hp)),λ r b=>?_⟩,by rw [aKS];exact h.ids,by rw [aFO];exact h.seqs,aGi.2 h.run.quo⟩;have d:=h.gang r.pn (Cv _ (Cm b));refine ⟨aB0.2 d,?_⟩;obtain ⟨e,f,g,j⟩:=h.run.time r b;unfold rnB;simp only [Ad,decide_eq_true_eq];have c:=a.2.1;rw [Dw] at c;exact ⟨⟨⟨e,f⟩,g⟩,aLI (DJ h.head d.1) (λ x i=>iI (h.gang x.pn (Cv _ (Cm i))).1) c h.run.hst b (h.run.plc r b),j⟩
def OkS.base{s:Sta}(h:OkS s):Base s where
 c:=⟨by have:=(wT h.head).ns;omega,by have:=(wT h.head).hs;omega⟩
 ids:=h.ids
 seqs:=h.seqs
 few:=by rw [Ai,Cc];have:=h.few;omega
 gang x hx:=by have hn:=iI (h.gang x hx).1;have:=hn.pods;have:=hn.id;exact ⟨by omega,hn.v,by omega⟩
def LO(s:Sta){l:a7}(h:(l.map λ x=>x.seq).Nodup):Tot (ltP s) l:=by unfold Tot;unfold Lg at h;rw [Fw] at h;exact h.imp λ h=>aGY s h
def OkS.st{s:Sta}(h:OkS s)(hl:LtF s.hist):StOK s:=by
 have hz:=wT h.head;have h1:=hz.ns;have i:=hz.hs;have h3:=hz.half;have k:=hz.age;have f:=h.hist;have l:=h.few;have j:=h.nxt
 have b:Sm s.run:=⟨by omega,λ x d=>by
  have:=(h.run.plc x d).1;have:=(iI (h.gang x.pn (Cv _ (Cm d))).1).pods;have e:x.pn.g=x.g:=rfl;rw [e] at this
  omega⟩
 have a:=h.seqs;rw [Bm,Bt] at a;exact ⟨h.base.c,⟨h.base,⟨by omega,by omega,by omega,b,by omega⟩,⟨h.base.c,h1,hl,by omega,h.now,by omega⟩,λ p hp=>(h.gang p (Dc _ hp)).2.2.2.1,LO s a.1⟩,by omega,by omega⟩
def RunP.filter{c:Con}{now:Int}{l:a6}(q:Rn->Bool)(b:∀ x∈l,am x.g)(h:RunP c now l):RunP c now (l.filter q):=
 ⟨λ r a=>h.time r (Fc.1 a).1,λ r a=>h.plc r (Fc.1 a).1,h.hst.filter q b,h.quo.filter q b⟩
def OkS.needs{s:Sta}(h:OkS s):∀ x∈s.run,am x.g:=λ x a=>iI (h.gang x.pn (Cv _ (Cm a))).1
def OkS.part{s:Sta}(h:OkS s){pend:a7}{run:a6}{rest:a7}(hp:((pend++run.map Rn.pn)++rest).Perm (s.pend++s.run.map Rn.pn))(hs:Srt pend)(hr:RunP s.c s.now run):OkS {s with pend:=pend,run:=run} where
 head:=h.head
 now:=h.now
 nxt:=h.nxt
 hist:=h.hist
 few:=by have h1:=hp.length_eq;have h2:=h.few;simp only [Ai,Cc] at h1;show pend.length+run.length<=32;omega
 row:=hs
 gang x hx:=h.gang x (hp.mem_iff.1 (Dc _ hx))
 ids:=by have h1:=((hp.map λ x=>x.g.id).nodup_iff).2 h.ids;rw [Bm,Bt] at h1;exact h1.1
 seqs:=by have h1:=((hp.map λ x=>x.seq).nodup_iff).2 h.seqs;rw [Bm,Bt] at h1;exact h1.1
 run:=hr
def D7{α:Type}(q:α->Bool):∀ (l:List α),(l.filter q++l.filter λ x=>!q x).Perm l
 | []=>Jk _
 | x::l=>by
  have b:=D7 q l;by_cases a:q x=true
  .rw [Ft a,Fs (by rw [a];decide)];exact b.cons x
  .rw [Fs a,Ft (by simpa using a)];exact Ei.trans (b.cons x)
def OkS.wo{s:Sta}(h:OkS s)(q:Rn->Bool):OkS {s with run:=s.run.filter q}:=by refine h.part (pend:=s.pend) (run:=s.run.filter q) (rest:=(s.run.filter λ x=>!q x).map Rn.pn) ?_ h.row (h.run.filter q h.needs);rw [Af,<-Bm];exact Du _ ((D7 q s.run).map _)
def OkS.take{s:Sta}(h:OkS s)(a:Int):OkS {s with pend:=dN s.pend a}:=by
 have b:=h.run;rcases BO a s.pend with ⟨_,e⟩ | ⟨A,p,B,c,f,d⟩
 .have:dN s.pend a=s.pend:=by unfold dN;rw [if_pos o_]
  rw [this];exact h
 .have e:dN s.pend a=A++B:=by unfold dN;rw [if_neg o_,d,c];show (A++p::B).eraseIdx A.length=_;rw [Jf (Bd _),Ml];rfl
  refine h.part (pend:=dN s.pend a) (run:=s.run) (rest:=[p]) ?_ (LS h.row) b;rw [e,c];refine Dv.trans ?_;show (p::((A++B)++_)).Perm _;rw [Af,Af];exact Ei.symm
structure RK(s:Sta)(r:Rd):Prop where
 row:Srt r.s.pend
 run:RunP s.c s.now r.s.run
def ai.gangA{s:Sta}{r:Rd}{rest:a7}(o:OkS s)(h:ai s r rest):∀ x∈r.s.pend++r.s.run.map Rn.pn,XL s.c s.nxt s.now x:=λ x a=>o.gang x (h.perm.mem_iff.1 a)
def ai.needs{s:Sta}{r:Rd}{rest:a7}(o:OkS s)(h:ai s r rest):∀ x∈r.s.run,am x.g:=λ x a=>iI (h.gangA o x.pn (Cv _ (Cm a))).1
def RK.adm{s:Sta}{r:Rd}{p:Pn}{rest:a7}(o:OkS s)(h:ai s r (p::rest))(k:RK s r){x:Int×aw}(e:cM r.s.c r.s.run p.g=some x):RK s (P7 r p x.1 x.2):=by
 have hp:=h.gangA o p (Dc _ (h.sub p (Ao ..)));have d:=iI hp.1;have n:=DJ o.head hp.1;rw [h.c] at e;unfold cM at e;split at e
 .rename_i hm;obtain ⟨t,l⟩:=aDq d.v d.pods.1 d.lev e;have q:=ZJ d.pods.1 d.lev e;obtain ⟨i,j,w⟩:=PG.1 l;have b:=h.needs o;refine ⟨LS k.row,⟨λ y a=>?_,λ y a=>?_,?_,?_⟩⟩
  .rcases Ba.1 a with a | a
   .exact k.run.time y a
   .rw [Dj.1 a];have:=hp.2.2.2;have:=d.run;have:=o.now;refine ⟨by show p.at'<=r.s.now;rw [h.now];omega,by show r.s.now<=s.now;rw [h.now];omega,?_,q⟩;have m:=h.now;unfold dY;dsimp only;split
    .omega
    .split<;>omega
  .rcases Ba.1 a with a | a
   .exact k.run.plc y a
   .rw [Dj.1 a];exact ⟨i,j,λ u f=>by have:=w u f;rw [wY] at this;exact ⟨this.1,this.2.1⟩⟩
  .exact k.run.hst.more n b d λ u f=>(t u f).2.2
  .exact k.run.quo.more b d hm (oJ.1 hp.1).2
 .cases e
def OM(run:a6):∀ (ids:aw) (r:Rd),Srt r.s.pend->((ids.map (λ id=>(xOf run id).pn)++r.s.pend).map λ x=>x.seq).Nodup->Srt (ids.foldl (dX run) r).s.pend
 | [],_,h,_=>h
 | id::ids,r,h,hn=>by
  rw [Bc];have hp:=xV r.s.pend (xOf run id).pn;rw [Bl,Ce,Bl,Cg] at hn;refine OM run ids (dX run r id) (UZ h λ x a e=>hn.1 ?_) ?_
  .have e:x.seq=(xOf run id).pn.seq:=e;rw [<-e];exact Cm (Cv _ a)
  .have h1:(ids.map (λ id=>(xOf run id).pn)++(dX run r id).s.pend).Perm ((xOf run id).pn::(ids.map (λ id=>(xOf run id).pn)++r.s.pend)):=(Du _ hp).trans Ei;refine ((h1.map λ x=>x.seq).nodup_iff).2 ?_;rw [Bl,Cg];exact hn
def RK.evic{s:Sta}{r:Rd}{rest:a7}(o:OkS s)(h:ai s r rest)(k:RK s r){ids:aw}(c:ids.Nodup)(a:∀ id∈ids,0<=aS (bV id) r.s.run 0):RK s (mW r ids):=by
 refine ⟨OM r.s.run ids r k.row ?_,k.run.filter _ (h.needs o)⟩;have h1:=(M8 (h.once o.base) c a).map Rn.pn;rw [Bm,Dw] at h1;have b:((ids.map (λ id=>(xOf r.s.run id).pn)++r.s.pend)++(aE r.s.run ids).map Rn.pn).Perm (s.pend++s.run.map Rn.pn):=by refine Mr ?_ h.perm;refine (Dr _ Dv).trans ?_;rw [Af];exact Du _ h1
 have h3:=((b.map λ x=>x.seq).nodup_iff).2 o.seqs;rw [Bm,Bt] at h3;exact h3.1
def RK.admR{s:Sta}{r:Rd}{p:Pn}{rest:a7}(o:OkS s)(h:ai s r (p::rest))(k:RK s r):RK s (Go.Proofs.YtaeegbkbahgjhaaGreatDoor.admR r p).1:=by
 unfold Go.Proofs.YtaeegbkbahgjhaaGreatDoor.admR;cases a:cM r.s.c r.s.run p.g with
 | none=>exact k
 | some x=>
  obtain ⟨fl,hs⟩:=x;unfold FT;dsimp only;split
  .exact k
  .exact k.adm o h a
def RK.look{s:Sta}{r:Rd}{p:Pn}{rest:a7}(o:OkS s)(h:ai s r (p::rest))(k:RK s r):RK s (cQ r p):=by
 unfold cQ;split
 .exact k.admR o h
 .rename_i i;split
  .exact k
  .rename_i l;have b:r.head=false:=by cases d:r.head with | false=>rfl | true=>exact absurd d l
   have a:cM r.s.c r.s.run p.g=none:=by
    cases j:cM r.s.c r.s.run p.g with
    | none=>rfl
    | some x=>
     obtain ⟨fl,hs⟩:=x;refine absurd ?_ i;unfold Go.Proofs.YtaeegbkbahgjhaaGreatDoor.admR;rw [j];unfold FT;dsimp only;rw [b];rfl
   cases d:gK r.s.c r.s.run p.g with
   | none=>
    show RK s (pE r p _);cases uF r.s.c r.s.now r.s.run p.g with
    | none=>exact k
    | some n=>exact ⟨k.row,k.run⟩
   | some ids=>
    obtain ⟨_,f,_,e,_⟩:=yU o.base h a d;exact (k.evic o h f e).admR o (h.evic o.base f e)
def GE{s:Sta}(o:OkS s):∀ (L:a7) (r:Rd),K8 s r L->RK s r->RK s (L.foldl cQ r)
 | [],_,_,k=>k
 | p::L,r,h,k=>GE o L (cQ r p) (xR o.base r p L h) (k.look o h.1)
def OkS.round{s:Sta}(o:OkS s)(hl:LtF s.hist):OkS (lJ s).s:=by
 have hst:=(o.st hl).run.start;have h1:=(wA o.base (A0 s) _ hst).1;have f:=GE o (A0 s) _ hst ⟨o.row,o.run⟩;have e:(lJ s).s={s with pend:=(lJ s).s.pend,run:=(lJ s).s.run}:=by have a:=h1.c;have b:=h1.now;have c:=h1.nxt;have d:=h1.hist;change (lJ s).s.c=s.c at a;change (lJ s).s.now=s.now at b;change (lJ s).s.nxt=s.nxt at c;change (lJ s).s.hist=s.hist at d;rw [<-a,<-b,<-c,<-d]
 rw [e];refine o.part (rest:=[]) ?_ f.row f.run;rw [Ar];exact h1.perm
def QT{s:Sta}(o:OkS s)(hl:LtF s.hist):(lJ s).s.hist=s.hist/\(lJ s).s.nxt=s.nxt/\(lJ s).s.c=s.c/\(lJ s).s.now=s.now:=by have h1:=(wA o.base (A0 s) _ (o.st hl).run.start).1;exact ⟨h1.hist,h1.nxt,h1.c,h1.now⟩
def aJI(h b:az)(n half:Int):LtF (tkL h b n half):=by
 unfold tkL;have key:∀ (l:az) (i:Nat),LtF (eB (tkS b n half) l i):=λ l=>by
  induction l with
  | nil=>intro i x a;cases a
  | cons y l c=>
   intro i x a;rcases Aw.1 a with rfl | a
   .unfold tkS;split
    .exact XK _ _
    .exact JQ _ _
   .exact c (i+1) x a
 exact key h 0
def OkS.tick{s:Sta}(o:OkS s)(n:Int):OkS (iP s n).1/\(iP s n).1.nxt=s.nxt:=by
 unfold iP;split
 .exact ⟨o,rfl⟩
 .split
  .exact ⟨o,rfl⟩
  .have c:=o.wo λ x=>decide (s.now+n<dY x);have g:=o.now;refine ⟨⟨c.head,⟨by show 0<=s.now+n;omega,by show s.now+n<=_;omega⟩,c.nxt,?_,c.few,c.row,λ x j=>?_,c.ids,c.seqs,⟨λ r h=>?_,c.run.plc,c.run.hst,c.run.quo⟩⟩,rfl⟩
   .show (tkL _ _ _ _).length=_;unfold tkL;rw [jO];exact o.hist
   .obtain ⟨a,b,d,e,f⟩:=c.gang x j;exact ⟨a,b,d,e,by show x.at'<=s.now+n;have f:x.at'<=s.now:=f;omega⟩
   .obtain ⟨a,b,d,e⟩:=c.run.time r h;have i:=(Fc.1 h).2;exact ⟨a,by show r.st<=s.now+n;have b:r.st<=s.now:=b;omega,of_decide_eq_true i,e⟩
def OkS.conf{s:Sta}(o:OkS s){c:Con}(d:bU c=0)(h:¬ 0<s.pend.length+s.run.length):OkS {s with c:=c,hist:=Aj c.ns.length 0}:=by have hp:s.pend=[]:=Cl.1 o_;have b:s.run=[]:=Cl.1 o_;obtain ⟨g,now,nxt,pend,run,hist⟩:=s;dsimp only at hp b;subst hp b;refine ⟨.inr d,o.now,o.nxt,by simp,by simp,Ll,λ x f=>(by cases f),Hq,Hq,⟨λ r b=>(by cases b),λ r b=>(by cases b),?_,aBS d⟩⟩;have key:∀ p:V3->Int,(∀ v,bL v=true->0<=p v)->sD p c []:=λ p a j e=>a _ (TG d e);exact ⟨key _ λ_ a=>(cC a).1.1,key _ λ_ a=>(cC a).2.1.1,key _ λ_ a=>(cC a).2.2.1⟩
def ZL{a:Int}{l:a7}(h:jI a l<0):∀ p∈l,p.g.id≠a:=by
 rcases BO a l with ⟨h1,_⟩ | ⟨A,p,B,_,_,h1⟩
 .exact h1
 .omega
def OkS.submit{s:Sta}(o:OkS s)(n:s.nxt<1099511627776)(g:Gan):OkS (dS s g).1/\(dS s g).1.nxt<=s.nxt+1/\s.nxt<=(dS s g).1.nxt:=by
 unfold dS;iterate 4 (split;· exact ⟨o,by show s.nxt<=s.nxt+1;omega,De _⟩)
 rename_i h1 m h3 p;have h1:eU s.c g=0:=Fh.1 h1;refine ⟨?_,De _,by show s.nxt<=s.nxt+1;omega⟩;have hp:=xV s.pend ⟨g,s.nxt,s.now⟩;have h:(kG s.pend ⟨g,s.nxt,s.now⟩++s.run.map Rn.pn).Perm (⟨g,s.nxt,s.now⟩::(s.pend++s.run.map Rn.pn)):=Dr _ hp;have i:=o.now;have k:=o.nxt;refine ⟨o.head,o.now,⟨by show 1<=s.nxt+1;omega,by show s.nxt+1<=_;omega⟩,o.hist,?_,UZ o.row λ x f e=>?_,λ x f=>?_,?_,?_,o.run⟩
 .have:=hp.length_eq;rw [Al] at this;show (kG s.pend _).length+s.run.length<=32;omega
 .have:=(o.gang x (Dc _ f)).2.2.1;have e:x.seq=s.nxt:=e;omega
 .rcases Aw.1 (h.mem_iff.1 f) with rfl | f
  .refine ⟨h1,by cases l:(cM s.c [] g).isNone with | true=>exact absurd l h3 | false=>rfl,⟨by show 0<=s.nxt;omega,by show s.nxt<s.nxt+1;omega⟩,i.1,De _⟩
  .obtain ⟨a,b,d,e⟩:=o.gang x f;exact ⟨a,b,⟨d.1,by show x.seq<s.nxt+1;omega⟩,e⟩
 .refine ((h.map λ x=>x.g.id).nodup_iff).2 (Cg.2 ⟨λ hm=>?_,o.ids⟩);obtain ⟨x,f,e⟩:=Ca.1 hm;have e:x.g.id=g.id:=e;rcases Ba.1 f with f | f
  .exact ZL o_ x f e
  .obtain ⟨r,j,rfl⟩:=Ca.1 f;have:=D5 s.run 0 r j e;omega
 .refine ((h.map λ x=>x.seq).nodup_iff).2 (Cg.2 ⟨λ hm=>?_,o.seqs⟩);obtain ⟨x,f,e⟩:=Ca.1 hm;have:=(o.gang x f).2.2.1;have e:x.seq=s.nxt:=e;omega
structure OkT(s:Sta):Prop where
 ok:OkS s
 lt:LtF s.hist
def OkT.apply{s:Sta}(o:OkT s)(c:s.nxt<1099511627776)(x:Cmd):OkT (aQ s x).1/\(aQ s x).1.nxt<=s.nxt+1/\s.nxt<=(aQ s x).1.nxt:=by
 have same:OkT s/\s.nxt<=s.nxt+1/\s.nxt<=s.nxt:=⟨o,by omega,De _⟩
 unfold aQ;split
 .exact same
 split
 .split
  .exact same
  .rename_i e;split
   .exact same
   .rename_i b;refine ⟨⟨o.ok.conf (Fh.1 e) b,λ y d=>?_⟩,same.2⟩;have:=List.eq_of_mem_replicate d;omega
 split
 .obtain ⟨h1,a⟩:=o.ok.submit c x.g;refine ⟨⟨h1,?_⟩,a⟩;have:(dS s x.g).1.hist=s.hist:=by
   unfold dS;iterate 4 (split;· rfl)
   rfl
  rw [this];exact o.lt
 split
 .obtain ⟨h1,a⟩:=o.ok.tick x.n;refine ⟨⟨h1,?_⟩,by rw [a];exact same.2⟩;unfold iP;split
  .exact o.lt
  .split
   .exact o.lt
   .exact aJI _ _ _ _
 split
 .obtain ⟨h1,a,_⟩:=QT o.ok o.lt;refine ⟨⟨o.ok.round o.lt,?_⟩,?_⟩
  .show LtF (lJ s).s.hist;rw [h1];exact o.lt
  .show (lJ s).s.nxt<=_/\_<=(lJ s).s.nxt;rw [a];exact same.2
 split
 .exact ⟨⟨o.ok.wo _,o.lt⟩,same.2⟩
 split
 .exact same
 .exact ⟨⟨o.ok.take _,o.lt⟩,same.2⟩
def UJ:OkT tF:=by
 refine ⟨⟨.inl d_,by decide,by decide,rfl,by decide,Ll,λ x b=>(by cases b),Hq,Hq,⟨λ r a=>(by cases a),λ r a=>(by cases a),⟨?_,?_,?_⟩,?_⟩⟩,λ x b=>(by cases b)⟩
 all_goals exact λ j c=>absurd c (Nat.not_lt_zero _)
def two(a:Int)(b:Int)(x:Rn):Bool:=!((x.g.id==a)||(x.seq==b))
structure FairP(s:Sta):Prop where
 few:aNV s.c s.now s.run=1
 pend:s.pend.length<=32
 row:aBr s.pend=true
 hist:s.hist.length=s.c.ns.length
 gang:∀ p∈s.pend,aJd s.c.ns p.g≠0/\0<=p.at'/\p.at'<=s.now
 two:∀ p∈s.pend,∀ x∈s.run,x.g.id≠p.g.id/\x.seq≠p.seq
 once:s.run.Pairwise λ a b=>a.g.id≠b.g.id/\a.seq≠b.seq
structure FairS(s:Sta):Prop where
 siz:SizOK s.c
 chk:fZ s.c=true\/bU s.c=0
 now:0<=s.now/\s.now<=1099511627776
 nxt:1<=s.nxt/\s.nxt<=1099511627776
 few:s.pend.length+s.run.length<=32
 hist:s.hist.length=s.c.ns.length
 row:Srt s.pend
 ids:((s.pend++s.run.map Rn.pn).map λ x=>x.g.id).Nodup
 seqs:((s.pend++s.run.map Rn.pn).map λ x=>x.seq).Nodup
 need:∀ x∈s.pend++s.run.map Rn.pn,am x.g
 at':∀ p∈s.pend,0<=p.at'/\p.at'<=s.now
 hs:∀ x∈s.run,x.hs.length<=16
def FairS.base{s:Sta}(h:FairS s):Base s where
 c:=⟨by have:=h.siz.ns;omega,by have:=h.siz.hs;omega⟩
 ids:=h.ids
 seqs:=h.seqs
 few:=by rw [Ai,Cc];have:=h.few;omega
 gang x hx:=by have hn:=h.need x hx;have:=hn.pods;have:=hn.id;exact ⟨by omega,hn.v,by omega⟩
def FairS.sm{s:Sta}(h:FairS s):Sm s.run:=⟨by have:=h.few;omega,λ x a=>by have:=h.hs x a;omega⟩
def FairS.st{s:Sta}(h:FairS s)(hl:LtF s.hist):StOK s:=by have h1:=h.siz.ns;have d:=h.siz.hs;have h3:=h.siz.half;have f:=h.siz.age;have b:=h.hist;have g:=h.few;have e:=h.nxt;have a:=h.seqs;rw [Bm,Bt] at a;exact ⟨h.base.c,⟨h.base,⟨by omega,by omega,by omega,h.sm,by omega⟩,⟨h.base.c,h1,hl,by omega,h.now,by omega⟩,λ p hp=>(h.at' p hp).1,LO s a.1⟩,by omega,by omega⟩
def FairS.tick{s:Sta}(h:FairS s)(n:Int):FairS (iP s n).1:=by
 unfold iP;split
 .exact h
 .split
  .exact h
  .have c:=h.now;have b:(atL s.run (s.now+n)).Sublist s.run:=Iv;have hm:(s.pend++(atL s.run (s.now+n)).map Rn.pn).Sublist (s.pend++s.run.map Rn.pn):=List.Sublist.append (Jn _) (b.map _);refine ⟨h.siz,h.chk,⟨by show 0<=s.now+n;omega,by show s.now+n<=_;omega⟩,h.nxt,?_,?_,h.row,h.ids.sublist (hm.map _),h.seqs.sublist (hm.map _),λ x a=>h.need x (hm.subset a),λ p hp=>⟨(h.at' p hp).1,by have:=(h.at' p hp).2;show p.at'<=s.now+n;omega⟩,λ x a=>h.hs x (b.subset a)⟩
   .have:=b.length_le;have:=h.few;show s.pend.length+(atL _ _).length<=32;omega
   .show (tkL _ _ _ _).length=_;unfold tkL;rw [jO];exact h.hist
def aKu{s:Sta}(h:StOK s)(hs:Sm s.run)(x:Cmd)(i:x.k=1->x.c.sm):Sm (aQ s x).1.run/\(aQ s x).1.hist.length<=1048576/\(aQ s x).2.1.length<=1000000:=by
 have a:=h.run.ord.hl
 have fl:∀ q:Rn->Bool,Sm (s.run.filter q):=λ q=>⟨Cx (Fj _ _) hs.1,λ x f=>hs.2 x (Fc.1 f).1⟩
 have same:Sm s.run/\s.hist.length<=1048576/\([]:bg).length<=1000000:=⟨hs,a,by simp⟩
 unfold aQ;split
 .exact same
 split
 .rename_i d;split
  .exact same
  .split
   .exact same
   .refine ⟨hs,?_,by simp⟩;show (Aj _ _).length<=_;rw [Gc];exact (i d).ns
 split
 .have:(dS s x.g).1.hist=s.hist/\(dS s x.g).1.run=s.run:=by
   unfold dS;iterate 4 (split;· exact ⟨rfl,rfl⟩)
   exact ⟨rfl,rfl⟩
  rw [this.1,this.2];exact same
 split
 .unfold iP;split
  .exact same
  .split
   .exact same
   .refine ⟨fl _,?_,?_⟩
    .show (tkL _ _ _ _).length<=_;unfold tkL;rw [jO];exact a
    .show (rY _ _).length<=_;unfold rY;rw [Cc];have:=Fj (λ x=>decide (dY x<=s.now+x.g.id)) s.run;refine Cx (Fj _ _) ?_;have:=h.run.base.few;simp at this;omega
 split
 .obtain ⟨h1,b⟩:=wA h.run.base (A0 s) _ h.run.start;refine ⟨h1.sm h.run.base,?_,?_⟩
  .have e:(lJ s).s.hist=s.hist:=h1.hist;show (lJ s).s.hist.length<=_;rw [e];exact a
  .have b:(lJ s).ev.length+100*0<=900000:=b;show (lJ s).ev.length<=_;omega
 split
 .exact ⟨fl _,a,by simp⟩
 split
 .exact same
 .exact ⟨hs,a,by simp⟩
def Ev.eqb(x y:Ev):Bool:=(x.k==y.k)&&((x.id==y.id)&&((x.n==y.n)&&true))
def Ev.eqb_eq{x y:Ev}:x.eqb y=true↔x=y:=by obtain ⟨_,_,_⟩:=x;obtain ⟨_,_,_⟩:=y;simp [Ev.eqb]
def Pn.eqb(x y:Pn):Bool:=(x.g.id==y.g.id)&&((x.g.ten==y.g.ten)&&((x.g.pods==y.g.pods)&&((x.g.need.a==y.g.need.a)&&((x.g.need.b==y.g.need.b)&&((x.g.need.c==y.g.need.c)&&((x.g.run==y.g.run)&&((x.g.lev==y.g.lev)&&((x.g.pref==y.g.pref)&&((x.seq==y.seq)&&((x.at'==y.at')&&true))))))))))
def Pn.eqb_eq{x y:Pn}:x.eqb y=true↔x=y:=by obtain ⟨⟨_,_,_,⟨_,_,_⟩,_,_,_⟩,_,_⟩:=x;obtain ⟨⟨_,_,_,⟨_,_,_⟩,_,_,_⟩,_,_⟩:=y;simp [Pn.eqb,and_assoc]
def sY{α:Type}[DecidableEq α]{f:α->α->Bool}(c:∀ x y,f x y=true↔x=y):∀ (a b:List α),C8.eqL f a b=decide (a=b)
 | [],[]=>rfl
 | [],_::_=>rfl
 | _::_,[]=>rfl
 | x::r,y::s=>by
  show (f x y&&C8.eqL f r s)=_;rw [sY c r s];cases h:f x y with
  | true=>
   have:=(c x y).1 h;subst this;simp
  | false=>
   have:x≠y:=λ e=>by rw [(c x y).2 e] at h;cases h
   simp [this]
def aDD(a b:a7)(k:a.length=b.length)(hl:((pnv a).length:Int)<=9223372036854775807)(r:Bool):∀ (n i:Nat),i+n=a.length->C8.eqL Pn.eqb (a.drop i) (b.drop i)=r->
  To E Tryz.f24 (.pure (.ret (.bool r))) (.head (stk Tryz.f24 0) [(0,.slice 11 (pnv a) .no),(1,.slice 11 (pnv b) .no),(12,.int .i64 ((pnv a).length:Nat)),(13,.int .i64 i)] []):=by
 have g:(pnv a).length=a.length:=by simp
 intro n;induction n with
 | zero=>
  exact zqya9
 | succ n j=>
  intro i p c;have h1:i<a.length:=o_;have d:i<b.length:=o_;rw [Ae h1,Ae d] at c;have c:(Pn.eqb a[i] b[i]&&C8.eqL Pn.eqb (a.drop (i+1)) (b.drop (i+1)))=r:=c;generalize l:a[i]=x at c;generalize m:b[i]=y at c;have q:(pnv a)[i]? =some (Pn.av x):=by simp [l,h1]
  have o:(pnv b)[i]? =some (Pn.av y):=by simp [m,d]
  refine gV ?_;refine aT λ h=>?_
  repeat' first | (refine gN hE ?_;conv=>whnf) | refine ⟨_,q,?_⟩ | refine ⟨_,o,?_⟩ | exact rfl | refine zt ?_ | refine zu ?_ ?_ | intro h | fail
  .rename_i h;have h:Pn.eqb x y=false:=zY h;rw [h] at c;rw [<-c];rfl
  .rename_i h;have h:Pn.eqb x y=true:=zZ h;rw [h,Cz] at c;have e:=j (i+1) o_ c;exact zW
def aLi(a b:a7):aq 24 [.slice 11 (pnv a) .no,.slice 11 (pnv b) .no] [] (.ret (.bool (C8.eqL Pn.eqb a b))) []:=by
 have d:(pnv a).length=a.length:=by simp
 have c:(pnv b).length=b.length:=by simp
 refine c_ Tryz.f24 λ j=>?_;have hl:((pnv a).length:Int)<=9223372036854775807:=j.1;refine gV ?_;refine ⟨λ h=>?_,λ h=>?_⟩
 .have h:(((pnv a).length:Int) !=((pnv b).length:Int))=true:=h;exact zqya17
 .have h:(((pnv a).length:Int) !=((pnv b).length:Int))=false:=h;have i:=aDD a b (by simp at h;omega) hl _ a.length 0 o_ rfl;exact zW
def aDH(a b:az)(k:a.length=b.length)(hl:((fv a).length:Int)<=9223372036854775807)(r:Bool):∀ (n i:Nat),i+n=a.length->C8.eqL (λ x y:Nat=>((x:Int)==(y:Int))) (a.drop i) (b.drop i)=r->
  To E Tryz.f25 (.pure (.ret (.bool r))) (.head (stk Tryz.f25 0) [(0,.slice 1 (fv a) .no),(1,.slice 1 (fv b) .no),(12,.int .i64 ((fv a).length:Nat)),(13,.int .i64 i)] []):=by
 have g:(fv a).length=a.length:=by simp
 intro n;induction n with
 | zero=>
  exact zqya9
 | succ n j=>
  intro i p c;have h1:i<a.length:=o_;have d:i<b.length:=o_;rw [Ae h1,Ae d] at c;have c:((λ x y:Nat=>((x:Int)==(y:Int))) a[i] b[i]&&C8.eqL (λ x y:Nat=>((x:Int)==(y:Int))) (a.drop (i+1)) (b.drop (i+1)))=r:=c;generalize l:a[i]=x at c;generalize m:b[i]=y at c;have q:(fv a)[i]? =some (uu x):=by simp [l,h1]
  have o:(fv b)[i]? =some (uu y):=by simp [m,d]
  refine gV ?_;refine aT λ h=>?_
  repeat' first | (refine gN hE ?_;conv=>whnf) | refine ⟨_,q,?_⟩ | refine ⟨_,o,?_⟩ | exact rfl | refine zt ?_ | refine zu ?_ ?_ | intro h | fail
  .rename_i h;have h:(λ x y:Nat=>((x:Int)==(y:Int))) x y=false:=zY h;rw [h] at c;rw [<-c];rfl
  .rename_i h;have h:(λ x y:Nat=>((x:Int)==(y:Int))) x y=true:=zZ h;rw [h,Cz] at c;have e:=j (i+1) o_ c;exact zW
def aLk(a b:az):aq 25 [.slice 1 (fv a) .no,.slice 1 (fv b) .no] [] (.ret (.bool (C8.eqL (λ x y:Nat=>((x:Int)==(y:Int))) a b))) []:=by
 have d:(fv a).length=a.length:=by simp
 have c:(fv b).length=b.length:=by simp
 refine c_ Tryz.f25 λ j=>?_;have hl:((fv a).length:Int)<=9223372036854775807:=j.1;refine gV ?_;refine ⟨λ h=>?_,λ h=>?_⟩
 .have h:(((fv a).length:Int) !=((fv b).length:Int))=true:=h;exact zqya17
 .have h:(((fv a).length:Int) !=((fv b).length:Int))=false:=h;have i:=aDH a b (by simp at h;omega) hl _ a.length 0 o_ rfl;exact zW
def aDF(a b:aw)(k:a.length=b.length)(hl:((iv a).length:Int)<=9223372036854775807)(r:Bool):∀ (n i:Nat),i+n=a.length->C8.eqL (λ x y:Int=>(x==y)) (a.drop i) (b.drop i)=r->
  To E Tryz.f23 (.pure (.ret (.bool r))) (.head (stk Tryz.f23 0) [(0,.slice 1 (iv a) .no),(1,.slice 1 (iv b) .no),(12,.int .i64 ((iv a).length:Nat)),(13,.int .i64 i)] []):=by
 have e:(iv a).length=a.length:=by simp
 intro n;induction n with
 | zero=>
  exact zqya9
 | succ n j=>
  intro i p c;have h1:i<a.length:=o_;have d:i<b.length:=o_;rw [Ae h1,Ae d] at c;have c:((λ x y:Int=>(x==y)) a[i] b[i]&&C8.eqL (λ x y:Int=>(x==y)) (a.drop (i+1)) (b.drop (i+1)))=r:=c;generalize l:a[i]=x at c;generalize m:b[i]=y at c;have q:(iv a)[i]? =some (ii x):=by simp [l,h1]
  have o:(iv b)[i]? =some (ii y):=by simp [m,d]
  refine gV ?_;refine aT λ h=>?_
  repeat' first | (refine gN hE ?_;conv=>whnf) | refine ⟨_,q,?_⟩ | refine ⟨_,o,?_⟩ | exact rfl | refine zt ?_ | refine zu ?_ ?_ | intro h | fail
  .rename_i h;have h:(λ x y:Int=>(x==y)) x y=false:=zY h;rw [h] at c;rw [<-c];rfl
  .rename_i h;have h:(λ x y:Int=>(x==y)) x y=true:=zZ h;rw [h,Cz] at c;have g:=j (i+1) o_ c;exact zW
def aLj(a b:aw):aq 23 [.slice 1 (iv a) .no,.slice 1 (iv b) .no] [] (.ret (.bool (C8.eqL (λ x y:Int=>(x==y)) a b))) []:=by
 have i:(iv a).length=a.length:=by simp
 have d:(iv b).length=b.length:=by simp
 refine c_ Tryz.f23 λ j=>?_;have hl:((iv a).length:Int)<=9223372036854775807:=j.1;refine gV ?_;refine ⟨λ h=>?_,λ h=>?_⟩
 .have h:(((iv a).length:Int) !=((iv b).length:Int))=true:=h;rw [C8.eqL_len (by intro e;rw [i,d,e] at h;simp at h)];refine gW hE ?_;conv=>whnf
 .have h:(((iv a).length:Int) !=((iv b).length:Int))=false:=h;have c:=aDF a b (by simp at h;omega) hl _ a.length 0 o_ rfl;exact zW
def aHS(a b:a7):aq 24 [.slice 11 (pnv a) .no,.slice 11 (pnv b) .no] [] (.ret (.bool (decide (a=b)))) []:=by rw [<-sY (λ_ _=>Pn.eqb_eq) a b];exact aLi a b
def aHU(a b:az):aq 25 [.slice 1 (fv a) .no,.slice 1 (fv b) .no] [] (.ret (.bool (decide (a=b)))) []:=by rw [<-sY (f:=λ x y:Nat=>((x:Int)==(y:Int))) (λ x y=>by simp;omega) a b];exact aLk a b
def aHT(a b:aw):aq 23 [.slice 1 (iv a) .no,.slice 1 (iv b) .no] [] (.ret (.bool (decide (a=b)))) []:=by rw [<-sY (f:=λ x y:Int=>(x==y)) (λ x y=>by simp) a b];exact aLj a b
def YE{c d:Con}:C8.sameC c d=true↔c=d:=by obtain ⟨e,g,b,a⟩:=c;obtain ⟨k,h,j,i⟩:=d;unfold C8.sameC;rw [sY (f:=Nod.eqb) (λ_ _=>Nod.eqb_eq),sY (f:=Hos.eqb) (λ_ _=>Hos.eqb_eq)];simp
def aJZ(x y:Rn):aq 22 [x.av,y.av] [] (.ret (.bool (decide (x=y)))) []:=by
 have p:=aHT x.hs y.hs;have a:(true&&true)=true:=rfl;have n:(true&&false)=false:=rfl;by_cases h1:x.g=y.g
 .have q:Gan.eqb x.g y.g=true:=Gan.eqb_eq.2 h1;by_cases c:x.seq=y.seq
  .have m:(x.seq==y.seq)=true:=by simpa using c
   by_cases h3:x.at'=y.at'
   .have l:(x.at'==y.at')=true:=by simpa using h3
    by_cases i:x.st=y.st
    .have k:(x.st==y.st)=true:=by simpa using i
     by_cases j:x.fl=y.fl
     .have d:(x.fl==y.fl)=true:=by simpa using j
      have b:=n;have o:decide (x.hs=y.hs)=decide (x=y):=by obtain ⟨F,t,D,w,s,C⟩:=x;obtain ⟨v,z,H,G,u,B⟩:=y;dsimp only at h1 c h3 i j;subst h1 c h3 i j;simp
      rw [o] at p;generalize decide (x=y)=r at *
      exact zqya5
     .have b:(x.fl==y.fl)=false:=by simpa using j
      have d:=a;rw [decide_eq_false λ e=>j (by rw [e])];exact zqya5
    .have b:(x.st==y.st)=false:=by simpa using i
     have k:=a;have d:=a;rw [decide_eq_false λ e=>i (by rw [e])];exact zqya5
   .have b:(x.at'==y.at')=false:=by simpa using h3
    have l:=a;have k:=a;have d:=a;rw [decide_eq_false λ e=>h3 (by rw [e])];exact zqya5
  .have b:(x.seq==y.seq)=false:=by simpa using c
   have m:=a;have l:=a;have k:=a;have d:=a;rw [decide_eq_false λ e=>c (by rw [e])];exact zqya5
 .have b:Gan.eqb x.g y.g=false:=by
   cases h:Gan.eqb x.g y.g with
   | false=>rfl
   | true=>exact absurd (Gan.eqb_eq.1 h) h1
  have q:=a;have m:=a;have l:=a;have k:=a;have d:=a;rw [decide_eq_false λ e=>h1 (by rw [e])];exact zqya5
noncomputable abbrev aNe:Func:=Tryz.f21
def sdF:aa:=.func (.func 22) [] []
def aDC(a b:a6)(n:a.length=b.length)(hl:a.length<=1048576)(K:Int)(q:K=((rav a).length:Nat))(r:Bool):∀ (m i:Nat),i+m=a.length->decide (a.drop i=b.drop i)=r->
  To E aNe (.pure (.ret (.bool r))) (.head (stk aNe 0) [(1,.slice 14 (rav b) .no),(2,sdF),(15,.slice 14 (rav a) .no),(16,.int .i64 K),(17,.int .i64 i)] []):=by
 have k:(rav a).length=a.length:=by simp
 have j:(rav b).length=b.length:=by simp
 intro m;induction m with
 | zero=>
  intro i p c;rw [Ah o_,Ah o_] at c;have c:true=r:=c;subst c;refine gV ?_;exact zW
 | succ m h=>
  intro i p c;have f:i<a.length:=o_;have d:i<b.length:=o_;rw [Ae f,Ae d] at c;have l:=dT f;have o:=dT d;have g:=aJZ a[i] b[i];generalize a[i]=u at l c g;generalize b[i]=v at o c g;have next:=h (i+1) o_
  unfold sdF at next⊢
  by_cases h1:u=v
  .rw [decide_eq_true h1] at g;have next:=next (by rw [<-c,h1];exact decide_eq_decide.2 ⟨λ e=>by rw [e],λ e=>(Ng e).2⟩)
   clear h c;refine gV ?_;exact zW
  .rw [decide_eq_false h1] at g;have c:false=r:=by rw [<-c,decide_eq_false λ e=>h1 (Ng e).1]
   subst c;clear h next
   refine gV ?_;exact zW
def aLh(a b:a6)(hl:a.length<=1048576):aq 21 [.slice 14 (rav a) .no,.slice 14 (rav b) .no,sdF] [] (.ret (.bool (decide (a=b)))) []:=by
 have c:(rav a).length=a.length:=by simp
 have d:(rav b).length=b.length:=by simp
 by_cases h1:a.length=b.length
 .have h:(((rav a).length:Int) !=((rav b).length:Int))=false:=by rw [c,d,h1];simp
  have next:=aDC a b h1 hl _ rfl _ a.length 0 o_ (show _=decide (a=b) by rw [Cq,Cq])
  generalize decide (a=b)=r at *
  unfold sdF at next⊢
  exact zqya8
 .have h:(((rav a).length:Int) !=((rav b).length:Int))=true:=by rw [c,d];simp;omega
  rw [decide_eq_false λ e=>h1 (by rw [e])];exact zqya8
def aEg(c d:Con):Bool:=C8.eqL Nod.eqb c.ns d.ns&&(C8.eqL Hos.eqb c.hs d.hs&&(c.half==d.half&&c.age==d.age))
def S3(c d:Con)(R:Bool)(a:aEg c d=R):aq 20 [c.av,d.av] [] (.ret (.bool R)) []:=by
 have h1:=C8.eqN_ok c.ns d.ns;have e:=C8.eqH_ok c.hs d.hs;unfold aEg at a;generalize C8.eqL Nod.eqb c.ns d.ns=q1 at h1 a;generalize C8.eqL Hos.eqb c.hs d.hs=q2 at e a;cases q1 with
 | false=>
  have a:false=R:=a;exact zqya7
 | true=>
  cases q2 with
  | false=>
   have a:false=R:=a;exact zqya7
  | true=>
   have a:(c.half==d.half&&c.age==d.age)=R:=a;cases b:c.half==d.half with
   | false=>
    rw [b] at a;have a:false=R:=a;exact zqya7
   | true=>
    rw [b] at a;have a:(c.age==d.age)=R:=a;exact zqya7
def aEf{c d:Con}:aEg c d=true↔c=d:=YE
def aFU(a b:Sta):Bool:=aEg a.c b.c&&((a.now==b.now)&&((a.nxt==b.nxt)&&(decide (a.run=b.run)&&(decide (a.pend=b.pend)&&decide (a.hist=b.hist)))))
def X6(a b:Sta)(hl:a.run.length<=1048576)(r:Bool)(d:aFU a b=r):aq 8 [a.av,b.av] [] (.ret (.bool r)) []:=by
 have h1:=S3 a.c b.c _ rfl;have n:=aHS a.pend b.pend;have h3:=aLh a.run b.run hl;have o:=aHU a.hist b.hist;unfold aFU at d;generalize aEg a.c b.c=q1 at *
 generalize decide (a.pend=b.pend)=q2 at *
 generalize decide (a.run=b.run)=q3 at *
 generalize decide (a.hist=b.hist)=q4 at *
 have m:(true&&true)=true:=rfl;have e:(true&&false)=false:=rfl;cases q1 with
 | false=>
  have d:false=r:=d;subst d;have k:=m;have l:=e;have j:=e;exact zqya3
 | true=>
  have d:((a.now==b.now)&&((a.nxt==b.nxt)&&(q3&&(q2&&q4))))=r:=d;cases h:(a.now==b.now) with
  | false=>
   rw [h] at d;have d:false=r:=d;subst d;have k:(a.now !=b.now)=true:=by unfold bne;rw [h];rfl
   have l:=e;have j:=e;exact zqya3
  | true=>
   rw [h] at d;have l:(a.now !=b.now)=false:=by unfold bne;rw [h];rfl
   cases i:(a.nxt==b.nxt) with
   | false=>
    rw [i] at d;have d:false=r:=d;subst d;have k:(a.nxt !=b.nxt)=true:=by unfold bne;rw [i];rfl
    have j:=e;exact zqya3
   | true=>
    rw [i] at d;have j:(a.nxt !=b.nxt)=false:=by unfold bne;rw [i];rfl
    have k:=m;cases q3 with
    | false=>
     have d:false=r:=d;subst d;exact zqya3
    | true=>
     cases q2 with
     | false=>
      have d:false=r:=d;subst d;exact zqya3
     | true=>
      have d:q4=r:=d;subst d;exact zqya3
def aBi{a b:Sta}:aFU a b=true↔a=b:=by
 obtain ⟨r,j,q,m,i,p⟩:=a;obtain ⟨l,n,t,s,k,o⟩:=b;unfold aFU;simp only [Ad,aEf,beq_iff_eq,decide_eq_true_eq,Sta.mk.injEq];constructor
 .rintro ⟨f,e,d,g,c,h⟩;exact ⟨f,e,d,c,g,h⟩
 .rintro ⟨f,e,d,c,g,h⟩;exact ⟨f,e,d,g,c,h⟩
def zI:V3:=⟨4,4,4⟩
def aL3(n:Int):Cmd:=⟨5,aEh,Gan.zero,n⟩
open Go.ChangeShapes Go.WideShapes Go.ChangeAt Go.RowKit
set_option maxRecDepth 100000
def aEv{H:Type}(d:DataW H):1<=Rows.uptoBulk d:=by
 cases d with
 | lit l=>cases l<;>simp [Rows.uptoBulk]
 | _=>simp [Rows.uptoBulk]
def yY{H:Type}{d:DataW H}:∀ {l:List (DataW H)},d∈l->Rows.uptoBulk d<=Rows.uptoBulkAll l
 | [],h=>by cases h
 | x::r,h=>by
  simp only [Rows.uptoBulkAll];rcases Aw.1 h with rfl | h
  .omega
  .have:=yY h;omega
def PQ{H:Type}:∀ (l:List (DataW H)),l.length<=Rows.uptoBulkAll l
 | []=>by simp
 | x::r=>by have:=aEv x;have:=PQ r;simp only [Rows.uptoBulkAll,Al];omega
def aNC(H:Type)(N:Nat):Bulk H N (λ d=>Rows.uptoBulk d<=N) where
 str l h:=by simp only [Rows.uptoBulk] at h;omega
 sl e r h:=by simp only [Rows.uptoBulk] at h;have:=PQ e;exact ⟨by omega,λ d hd=>by have:=yY hd;omega⟩
 agg l h:=by simp only [Rows.uptoBulk] at h;exact λ d hd=>by have:=yY hd;omega
section
variable {N:Nat}
def aJF{n:Nat}{cs:ay}(h:TyN Tryz.prog N (n+1) 3 cs):∃ m:Int,cs=[ii m]/\ -9223372036854775808<=m/\m<=9223372036854775807:=by unfold TyN at h;rw [Tryz.underlying3] at h;obtain ⟨m,h,h1,a⟩:=h;simp only [cJ,bE] at h1 a;exact ⟨m,h,by omega,by omega⟩
def iO{n:Nat}{cs:ay}(h:TyN Tryz.prog N (n+1) 3 cs):∃ m:Int,cs=[ii m]:=by unfold TyN at h;rw [Tryz.underlying3] at h;obtain ⟨m,h,_⟩:=h;exact ⟨m,h⟩
def LR{n:Nat}{cs:ay}(h:TyN Tryz.prog N (n+2) 32 cs):∃ v:V3,cs=v.cs:=by
 unfold TyN at h;rw [Tryz.underlying32] at h;obtain ⟨xs,hl,d,rfl⟩:=h
 match xs,hl,d with
 | [x,y,z],_,d=>
  obtain ⟨a,rfl⟩:=iO (d x s_);obtain ⟨b,rfl⟩:=iO (d y s_);obtain ⟨c,rfl⟩:=iO (d z s_);exact ⟨⟨a,b,c⟩,rfl⟩
def aJH{n:Nat}{cs:ay}(h:TyN Tryz.prog N (n+3) 34 cs):∃ g:Gan,cs=g.cs:=by unfold TyN at h;rw [Tryz.underlying34] at h;obtain ⟨o,r,rfl,f,p,r,rfl,h1,q,r,rfl,a,s,r,rfl,h3,x,r,rfl,i,w,r,rfl,j,u,r,rfl,m,rfl⟩:=h;obtain ⟨d,rfl⟩:=iO f;obtain ⟨l,rfl⟩:=iO h1;obtain ⟨c,rfl⟩:=iO a;obtain ⟨v,rfl⟩:=LR h3;obtain ⟨e,rfl⟩:=iO i;obtain ⟨b,rfl⟩:=iO j;obtain ⟨k,rfl⟩:=iO m;exact ⟨⟨d,l,c,v,e,b,k⟩,rfl⟩
def XI{α:Type}{av:α->aa}{P:aa->Prop}{Q:α->Prop}(b:∀ x,P x->∃ p:α,x=av p/\Q p):∀ (xs:ay),(∀ x∈xs,P x)->∃ l:List α,xs=l.map av/\∀ p∈l,Q p
 | [],_=>⟨[],rfl,λ p h=>by cases h⟩
 | x::xs,h=>by
  obtain ⟨p,rfl,hp⟩:=b x (h x s_);obtain ⟨l,rfl,hl⟩:=XI b xs λ x c=>h x (by simp [c])
  exact ⟨p::l,rfl,λ q a=>by
   rcases Aw.1 a with rfl | a
   .exact hp
   .exact hl q a⟩
end
section
variable {N:Nat}
def aJE{n:Nat}{cs:ay}(h:TyN Tryz.prog N (n+3) 89 cs):∃ x:Nod,cs=x.cs:=by unfold TyN at h;rw [Tryz.underlying89] at h;obtain ⟨f,r,rfl,c,g,r,rfl,h1,i,r,rfl,a,j,r,rfl,h3,k,r,rfl,d,rfl⟩:=h;obtain ⟨b,rfl⟩:=iO c;obtain ⟨e,rfl⟩:=iO h1;obtain ⟨u,rfl⟩:=LR a;obtain ⟨v,rfl⟩:=LR h3;obtain ⟨w,rfl⟩:=LR d;exact ⟨⟨b,e,u,v,w⟩,rfl⟩
def aJG{n:Nat}{cs:ay}(h:TyN Tryz.prog N (n+3) 91 cs):∃ x:Hos,cs=x.cs:=by unfold TyN at h;rw [Tryz.underlying91] at h;obtain ⟨f,r,rfl,b,g,r,rfl,h1,i,r,rfl,a,j,r,rfl,h3,rfl⟩:=h;obtain ⟨c,rfl⟩:=iO b;obtain ⟨d,rfl⟩:=iO h1;obtain ⟨e,rfl⟩:=iO a;obtain ⟨v,rfl⟩:=LR h3;exact ⟨⟨c,d,e,v⟩,rfl⟩
def aFc{n:Nat}{cs:ay}(h:TyN Tryz.prog N (n+4) 27 cs):∃ l:bc,cs=[.slice 11 (nav l) .no]/\l.length<=N:=by
 unfold TyN at h;rw [Tryz.underlying27] at h;obtain ⟨xs,rfl,b,a⟩:=h;have c:Tryz.prog.cellsOf 89=11:=by kernel_rfl
 obtain ⟨l,rfl,hl⟩:=XI (av:=Nod.av) (Q:=λ x=>True) (P:=λ x=>x∈xs) (λ x hm=>by
  obtain ⟨cs,rfl⟩:=(a x hm).2.1 (by kernel_rfl);obtain ⟨p,hp⟩:=aJE (n:=n) (a _ hm).1
  exact ⟨p,by unfold Nod.av;rw [<-hp];rfl,trivial⟩) xs λ x hm=>hm
 exact ⟨l,by rw [c],by simpa using b⟩
def aFd{n:Nat}{cs:ay}(h:TyN Tryz.prog N (n+4) 28 cs):∃ l:List Hos,cs=[.slice 6 (hav l) .no]/\l.length<=N:=by
 unfold TyN at h;rw [Tryz.underlying28] at h;obtain ⟨xs,rfl,b,a⟩:=h;have c:Tryz.prog.cellsOf 91=6:=by kernel_rfl
 obtain ⟨l,rfl,hl⟩:=XI (av:=Hos.av) (Q:=λ x=>True) (P:=λ x=>x∈xs) (λ x hm=>by
  obtain ⟨cs,rfl⟩:=(a x hm).2.1 (by kernel_rfl);obtain ⟨p,hp⟩:=aJG (n:=n) (a _ hm).1
  exact ⟨p,by unfold Hos.av;rw [<-hp];rfl,trivial⟩) xs λ x hm=>hm
 exact ⟨l,by rw [c],by simpa using b⟩
def aL7{n:Nat}{cs:ay}(h:TyN Tryz.prog 1048576 (n+5) 30 cs):∃ c:Con,cs=c.cs/\c.sm:=by unfold TyN at h;rw [Tryz.underlying30] at h;obtain ⟨g,r,rfl,d,i,r,rfl,h1,j,r,rfl,a,k,r,rfl,h3,rfl⟩:=h;obtain ⟨ns,rfl,e⟩:=aFc (n:=n) d;obtain ⟨hs,rfl,l1⟩:=aFd (n:=n) h1;obtain ⟨b,rfl⟩:=iO a;obtain ⟨f,rfl⟩:=iO h3;exact ⟨⟨ns,hs,b,f⟩,rfl,⟨e,l1⟩⟩
end
structure StaSm(s:Sta):Prop where
 c:s.c.sm
 pend:s.pend.length<=1048576
 run:Sm s.run
 hist:s.hist.length<=1048576
 fix:∀ x∈s.hist,x<18446744073709551616
structure CmSm(x:Cmd):Prop where
 c:x.c.sm
 n: -9223372036854775808<=x.n/\x.n<=9223372036854775807
def aL8{n:Nat}{cs:ay}(h:TyN Tryz.prog 1048576 (n+6) 36 cs):∃ x:Cmd,cs=x.cs/\CmSm x:=by unfold TyN at h;rw [Tryz.underlying36] at h;obtain ⟨e,r,rfl,d,f,r,rfl,h1,i,r,rfl,a,j,r,rfl,h3,rfl⟩:=h;obtain ⟨k,rfl⟩:=iO d;obtain ⟨c,rfl,b⟩:=aL7 (n:=n) h1;obtain ⟨g,rfl⟩:=aJH (n:=n+2) a;obtain ⟨m,rfl,hm⟩:=aJF h3;exact ⟨⟨k,c,g,m⟩,rfl,b,hm⟩
section
variable {H:Type} {enc:TypeId×Value->H} {W:World} {r:Reach} {base b0:Nat} {spare:Nat->Bool} {held:Bool} {v:Value} {d:DataW H} {ps:List MemPlace}
end
end Go.Proofs.YtaeegbkbahgjhaaGreatDoor
