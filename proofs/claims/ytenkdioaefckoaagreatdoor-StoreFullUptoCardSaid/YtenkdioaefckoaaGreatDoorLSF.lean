/- Part 13 of what the statement rests on. -/
import Derived.Test.YtenkdioaefckoaaGreatDoorTA
set_option linter.all false
set_option maxHeartbeats 2000000
open Go.AW.Res renaming ret->Io
open Go.AW.St renaming head->G0
open Go.AW.Tk renaming no->J0
open Go.AW.aa renaming agg->He,bool->DA,int->GE,ref->G2,slice->CA,str->HA,tup->GT
open Go.IntKind renaming i64->Is,u64->IH
open List renaming length->Z
open Bool renaming true->O,false->U
open Option renaming some->X,none->D
open And renaming intro->Aa
open Bool renaming and_eq_true->Af
open Go.Value renaming okWide->Dw
open Int renaming tmod->Ng
open List renaming append_assoc->Ag,append_nil->Ao,drop_eq_getElem_cons->Ac,drop_eq_nil_of_le->Ae,drop_zero->Ca,getD_eq_getElem?_getD->Fk,getElem?_eq_getElem->Ab,getElem?_eq_some_iff->Ad,getElem?_of_mem->Ck,getElem_mem->Aq,length_append->Ah,length_cons->Al,length_nil->Bj,map_cons->Bf,mem_cons->Az,mem_map_of_mem->Cf
open Nat renaming add_mul->Ch,beq->Av,one_mul->Hu,sub_self->Mp,zero_le->Bq
open UInt8 renaming ofNat->Da
set_option maxRecDepth 10000
namespace Go.AW
open Go.RowKit Go.ChangeShapes Go.WideShapes Go.ChangeAt
section
variable {P:Program} {w:World} {r:Reach} {base:Nat} {t:TypeId} {v:Value}
theorem tC{k:IntKind}{n:Int}(h:k.has n):inR k n:=by cases k<;>simpa[IntKind.has,IntKind.min,IntKind.max,IntKind.signed,IntKind.bits,inR,bS,aX]using h
def PQ{k:IntKind}(a:P.underlying t=X (.int k))(h:Cell.okWide P w r base t v):∃n,v= .int k n/\inR k n:=by
 unfold Cell.okWide at h;rw[a]at h;unfold Cell.ok at h
 grind[tC]
def vQ(a:aP P t=U)(h:Dw P w r base t v):Cell.okWide P w r base t v:=by
 unfold Dw at h;unfold aP at a;split at h
 .grind
 .grind
 .exact h
end
def aUb{args:Array Value}(h:Z args.toList=2):∃a b,args= #[a,b]:=by
 obtain⟨l⟩:=args
 match l,h with
 | [a,b],_=>simp
def sF(P:Program)(a:TypeId->Bool):Nat->List Field->Nat->Bool
 | off,[],total=>Av off total
 | off,f::fs,total=>(Av f.offset off&&a f.type)&&sF P a (off+P.cellsOf f.type) fs total
def fX(P:Program):Nat->TypeId->Bool
 | 0,_=>U
 | n+1,t=>match P.underlying t with
  | some .bool=>O
  | some (.int _)=>O
  | some .string=>O
  | some (.struct fs)=>sF P (fX P n) 0 fs.toList (P.cellsOf t)
  | some (.array m e)=>fX P n e&&Av (P.cellsOf t) (m*P.cellsOf e)
  | some (.slice e)=>fX P n e&&Nat.blt 0 (P.cellsOf e)
  | _=>U
section
variable {H:Type} {enc:TypeId×Value->H} {P:Program} {w:World} {base:Nat} {spare:Nat->Bool} {held:Bool}
def CW{r:Reach}{b0:Nat}{t e:TypeId}{v:Value}(b:P.underlying t=X (.slice e))(h:Cell.okWide P w r b0 t v):∃a n c,v= .slice a n c:=by unfold Cell.okWide at h;rw[b]at h;unfold Cell.ok at h;rw[b]at h;cases v<;>simp at h;simp
end
section
variable {H:Type} {N:Nat} {G:DataW H->Prop} {enc:TypeId×Value->H} {P:Program} {w:World} {base:Nat} {spare:Nat->Bool} {held:Bool}
def sR{n m:Nat}(p:∀t,fX P n t=O->∀cs x,DataW.trod enc P w base spare held m t cs=X x->G x.1->∃vas,dD w cs vas/\TyN P N n t vas)(cs:bb):
  ∀(c:List Field) (off:Nat),(∀f∈c,∃y,DataW.trod enc P w base spare held m f.type ((cs.drop f.offset).take (P.cellsOf f.type))=X y/\G y.1)->sF P (fX P n) off c (Z cs)=O->
   ∃vas,dD w (cs.drop off) vas/\TyF (TyN P N n) c vas:=by
 intro c;induction c with
 | nil=>
  intro off _ h;have:=aG h;subst this;exact⟨[],by simpa using dD.nil,rfl⟩
 | cons f c i=>
  intro off o h;simp only[sF,Af]at h;obtain⟨⟨h1,v⟩,h3⟩:=h;have d:=aG h1;obtain⟨y,q,k⟩:=o f s_;obtain⟨a,l,j⟩:=p f.type v _ y q k;obtain⟨b,s,e⟩:=i (off+P.cellsOf f.type) (λg u=>o g (by simp[u])) h3;refine⟨a++b,?_,a,b,rfl,j,e⟩;have r:cs.drop off=(cs.drop off).take (P.cellsOf f.type)++cs.drop (off+P.cellsOf f.type):=by rw[<-List.drop_drop,List.take_append_drop]
  rw[r];rw[d]at l;exact l.append s
def vO{n m:Nat}{e:TypeId}(h:fX P n e=O)(j:∀t,fX P n t=O->∀cs x,DataW.trod enc P w base spare held m t cs=X x->G x.1->∃vas,dD w cs vas/\TyN P N n t vas)(cs:bb):
  ∀(k:Nat),k*P.cellsOf e<=Z cs->(∀i,i<k->∃y,DataW.trod enc P w base spare held m e ((cs.drop (i*P.cellsOf e)).take (P.cellsOf e))=X y/\G y.1)->
   ∃b:List az,Z b=k/\(∀x∈b,TyN P N n e x)/\dD w (cs.take (k*P.cellsOf e)) b.flatten:=by
 intro k;induction k with
 | zero=>intro _ _;exact⟨[],rfl,λx g=>by simp at g,by simpa using dD.nil⟩
 | succ k c=>
  intro l f;rw[Ch,Hu]at l;obtain⟨b,s,u,r⟩:=c o_ (λi v=>f i o_);obtain⟨y,q,d⟩:=f k o_;obtain⟨a,p,o⟩:=j e h _ y q d;refine⟨b++[a],by simp[s],λx g=>?_,?_⟩
  .grind
  .rw [Ch,Hu,List.take_add];simp only[List.flatten_append,List.flatten_cons,List.flatten_nil,Ao];exact r.append p
def vP{n m:Nat}{e:TypeId}(A:fX P n e=O)(B:∀t,fX P n t=O->∀cs x,DataW.trod enc P w base spare held m t cs=X x->G x.1->∃vas,dD w cs vas/\TyN P N n t vas)(a:Addr):
  ∀(k:Nat),(∀i,i<k->∃y,((w.cells? base (a.add (i*P.cellsOf e)) (P.cellsOf e)).bind (DataW.trod enc P w base spare held m e))=X y/\G y.1)->
   ∃(xs:az) (us:List bb),Z xs=k/\Z us=k/\∀(i:Nat) x u,xs[i]? =X x->us[i]? =X u->Z x.cells=P.cellsOf e/\(∀j,j<P.cellsOf e->w.cell? ((a.add (i*P.cellsOf e)).add j)=u[j]?)/\dD w u x.cells/\
    TyN P N n e x.cells/\(aP P e=O->∃l,x= .agg l)/\(aP P e=U->x.cells=[x]):=by
 intro k;induction k with
 | zero=>intro _;exact⟨[],[],rfl,rfl,λi x u d=>by simp at d⟩
 | succ k q=>
  intro v;obtain⟨xs,us,z,s,F⟩:=q λi C=>v i o_;obtain⟨y,o,r⟩:=v k o_;obtain⟨u,Be,o⟩:=Option.bind_eq_some_iff.1 o;obtain⟨_,g,c⟩:=World.cells?_some Be;obtain⟨vas,has,f⟩:=B e A _ y o r;obtain⟨x,rfl,h⟩:=f.pack;refine⟨xs++[x],us++[u],by simp[z],by simp[s],λi x' H d b=>?_⟩;by_cases C:i<k
  .grind [List.getElem?_append_left]
  .have p:i=k:=by grind[Ad]
   subst p;rw[List.getElem?_append_right o_]at d b;rw[z,Mp]at d;rw[s,Mp]at b;simp at d b;subst d b;exact⟨by rw[<-has.1,g],c,has,f,h⟩
def sQ(T:Bulk H N G):∀(n:Nat) (t:TypeId),fX P n t=O->∀(y:Nat) (cs:bb) (x:DataW H×List MemPlace),DataW.trod enc P w base spare held y t cs=X x->G x.1->∃vas,dD w cs vas/\TyN P N n t vas:=by
 intro n;induction n with
 | zero=>intro t h;cases h
 | succ n ih=>
  intro t h y cs x d Be;unfold fX at h;unfold TyN;split at h
  .rename_i g
   try rw[g]
   obtain⟨b,rfl,_⟩:=DataW.trod_bool g d;exact⟨[.bool b],dD.single (.bool b),b,rfl⟩
  .rename_i k g
   try rw[g]
   obtain⟨m,rfl,_,L⟩:=DataW.trod_int g d;simp only[Lit.wf,Af,bo]at L;exact⟨[.int k m],dD.single (.int k m (tC L)),m,rfl,tC L⟩
  .rename_i g
   try rw[g]
   obtain⟨s,rfl,p,hs⟩:=DataW.trod_string g d;obtain⟨⟨l⟩⟩:=s;have W:=T.str _ (by rw[p]at Be;exact Be);exact⟨[.str l],dD.single (.str l (by have:=fR;have z:Z l<=maxLen:=hs;omega)),l,rfl,W⟩
  .rename_i fs g
   try rw[g]
   obtain⟨xs,m,rfl,p,B,Am,S⟩:=DataW.trod_struct g d;have u:=T.agg _ (by rw[p]at Be;exact Be);rw[<-B]at h
   have:=sR (λt R cs x d Q=>ih t R m cs x d Q) cs fs.toList 0 (λf hf'=>by grind[Ck,Array.getElem?_eq_some_iff,Ab,Cf,Aq]) h
   simpa using this
  .rename_i m e g
   try rw[g]
   simp only[Af]at h;obtain⟨h1,z⟩:=h;obtain⟨xs,q,rfl,p,B,Am,S⟩:=DataW.trod_array g d;have u:=T.agg _ (by rw[p]at Be;exact Be);have hc:=aG z;obtain⟨Ls,l1,l2,At⟩:=vO h1 (λt R cs x d Q=>ih t R q cs x d Q) cs m o_ (λi M=>⟨xs[i]' o_,(S i M).trans (Ab o_),u _ (Cf (Aq _))⟩)
   grind[List.take_of_length_le]
  .rename_i e g
   try rw[g]
   simp only[Af]at h;obtain⟨h1,z⟩:=h;have C:0<P.cellsOf e:=by simpa[Nat.blt_eq]using z
   rcases DataW.trod_slice g d with⟨rfl,_⟩|⟨a,len,cap,K,rest,q,rfl,rfl,p,hb,Y,hcm,hel,S,_⟩
   .exact ⟨[.slice (P.cellsOf e) [] .no],dD.single (.nilslice _),[],rfl,Bq _,λx d=>by simp at d⟩
   .have u:=T.sl _ _ (by rw[p]at Be;exact Be);obtain⟨xs,us,l1,l2,At⟩:=vP h1 (λt R cs x d Q=>ih t R q cs x d Q) a len (λi M=>⟨K[i]' o_,(S i M).trans (Ab o_),u.2 _ (Cf (Aq _))⟩);have hty:∀x∈xs,TyN P N n e x.cells/\(aP P e=O->∃l,x= .agg l)/\(aP P e=U->x.cells=[x]):=λx d=>by obtain⟨i,M⟩:=Ck d;have hlt:=(Ad.1 M).1;exact(At i x (us[i]' o_) M (Ab o_)).2.2.2
    by_cases h0:len=0
    .subst h0;have:xs=[]:=List.eq_nil_of_length_eq_zero l1;subst this;exact⟨[.slice (P.cellsOf e) [] .no],dD.single (.emptys _ a cap),[],rfl,Bq _,λx d=>by simp at d⟩
    .obtain ⟨b,o,sp⟩:=a;have hx0:xs[0]? =X (xs[0]' o_):=Ab o_;have An:us[0]? =X (us[0]' o_):=Ab o_;obtain⟨c1,c2,c3,_⟩:=At 0 _ _ hx0 An;have r:=c2 0 C;have I:0<Z (us[0]' o_):=by rw[c3.1,c1];exact C
     rw[Ab I]at r;have hsp:sp=none:=by have:=World.cell?_spot r;simpa[Addr.add]using this
     subst hsp;have key:∀(i j:Nat) x c,xs[i]? =X x->x.cells[j]? =X c->∃v,(us.getD i []).getD j undef=v/\w.cell? ⟨b,o+i*P.cellsOf e+j,D⟩=X v/\RepW w v c:=by
      intro i j x c d A;have hlt:=(Ad.1 d).1;have As:us[i]? =X (us[i]' o_):=Ab o_;obtain⟨d1,d2,d3,_⟩:=At i x _ d As;have V:=(Ad.1 A).1;have J:j<Z (us[i]' o_):=by rw[d3.1];exact V
      have F:=d2 j o_;rw[Ab J]at F;refine⟨_,rfl,?_,?_⟩
      .grind [bK]
      .rw [Fk,Fk,As];simp only[Option.getD_some,Ab J];exact d3.2 j _ c (Ab J) A
     refine⟨[.slice (P.cellsOf e) xs .no],dD.single (.slice (P.cellsOf e) b o len cap xs (λi j=>(us.getD i []).getD j undef) l1 Y (by have:=fR;omega) (λx d=>?_) (λi j x c d A=>?_) (λi j x c d A=>?_) (λi j x c d A=>?_)),xs,rfl,by have h9:=u.1;simp only[List.length_map]at h9;omega,hty⟩
     .grind [Ck,Ad,Ab]
     .obtain ⟨v,rfl,h1,_⟩:=key i j x c d A;exact h1
     .obtain ⟨v,rfl,_,z⟩:=key i j x c d A;exact z.one
     .obtain ⟨v,rfl,_,z⟩:=key i j x c d A;exact z
  .cases h
def zV(j:Bulk H N G){r:Reach}{b0:Nat}{n:Nat}{t e:TypeId}{v:Value}{d:DataW H}{ps:List MemPlace}(g:P.underlying t=X (.slice e))(f:fX P (n+1) t=O)(k:Dw P w r b0 t v)(h:DataW.Trod enc P w base spare held t v d ps)(p:G d):
  ∃xs,Rep (Mw w) [] v (.slice (P.cellsOf e) xs .no)/\Z xs<=N/\∀x∈xs,TyN P N n e x.cells/\(aP P e=O->∃l,x= .agg l)/\(aP P e=U->x.cells=[x]):=by
 obtain⟨a,m,c,rfl⟩:=CW g (vQ (by unfold aP;rw[g]) k);obtain⟨b,h⟩:=h;obtain⟨vas,h1,i⟩:=sQ j (n+1) t f b _ _ h p;unfold TyN at i;rw[g]at i;obtain⟨xs,rfl,hl,o⟩:=i;exact⟨xs,(h1.2 0 _ _ rfl rfl).rep,hl,o⟩
end
end Go.AW
namespace Go.Proofs.YtenkdioaefckoaaGreatDoor.C8
open Go Go.AW Go.Proofs
open Go.Proofs.Tryz
set_option maxRecDepth 10000
def aDG(x:Cmd):bj 35 [x.av] (ii (chk x)):=rcheck_any x _ rfl
def aDq(n:Nat):∀(b:ay),Z b+Z (putN n)<=100->(n:Int)<=9223372036854775807->
  DE E f107 (HA (b++putN n)) [(0,GE Is n),(3,HA b)] []:=by
 induction n using Nat.strongRecOn with
 | ind n g=>
  intro b c i;have hp:1<=Z (putN n):=by rw[putN];split<;>simp
  refine gV ?_;refine⟨λh=>?_,λh=>?_⟩
  .have h:127<n:=by have:=bn h;omega
   have a:putN n=Da (128+n % 128)::putN (n / 128):=by rw[putN,bt o_]
   have d:(128:Int)+Ng (n:Int) 128=((128+n % 128:Nat):Int):=by rw[Int.tmod_eq_emod_of_nonneg o_];omega
   have e:Int.tdiv (n:Int) 128=((n / 128:Nat):Int):=by rw[Int.tdiv_eq_ediv_of_nonneg o_];omega
   refine gV ?_;refine⟨by decide,gV ?_⟩;refine .inl ⟨by rw[d];exact lS (by simp only[aX];omega),?_⟩;refine gV ?_;refine .inl ⟨by rw[d];exact lS (by simp only[aX];omega),?_⟩;refine gV ?_;refine⟨[Da (128+n % 128)],?_,by simp,?_⟩
   .rw [d,<-AP o_];rfl
   refine gV ?_;refine⟨by simp;omega,?_⟩;refine gV ?_;refine⟨by decide,gV ?_⟩;refine .inl ⟨by rw[e];exact lS (by simp only[aX];omega),?_⟩;refine gV ?_;rw[e];refine To.head [0,3] ?_;have:=g (n / 128) o_ (b++[Da (128+n % 128)]) (by rw[a]at c;simp at c⊢;omega) o_;rw[a];rw[Ag]at this;exact this
  .have h:¬ 127<n:=by have:=bm h;omega
   have a:putN n=[Da n]:=by rw[putN,bu o_]
   refine gV ?_;refine .inl ⟨lS (by simp only[aX];omega),?_⟩;refine gV ?_;refine⟨[Da n],?_,by simp,?_⟩
   .rw [Bf,AP o_];rfl
   refine gV ?_;refine⟨by simp;omega,?_⟩;refine gV ?_;rw[a]
def sL(n:Int):bj 107 [GE Is n] (HA (putN n.toNat)):=by refine c_ f107 λa=>?_;have b:n<=9223372036854775807:=a.1.2;have:=HL n.toNat 9 o_;have e:max n 0=(n.toNat:Int):=o_;refine gV ?_;rw[e];refine To.head [0,3] ?_;exact aDq n.toNat [] (by simpa using(by omega:Z (putN n.toNat)<=100)) o_
def A3(v:V3)(h:okI v.l=O):bj 108 [He v.cs] (HA (pl v.l)):=by
 obtain⟨h1,j,h3⟩:=W7 h;have e:=pn_len (n:=v.a) o_;have d:=pn_len (n:=v.b) o_;have i:=pn_len (n:=v.c) o_;refine c_ f108 λ_=>?_
 repeat' first|refine pA ?_|refine .p (sL _) ?_|refine Aa (by simp only[Ah];omega) ?_|exact rfl|refine lA ?_ ?_|intro h
 simp[pl,V3.l]
def aIy{g:Gan}(h:g.ok=O):∀n∈g.il,n<=9223372036854775807:=by obtain⟨h1,d,h3⟩:=gan_b h;intro n c;have a:=okI_b h1;have k:=W7 d;have b:=okI_b h3;have i:=a g.id s_;have e:=a g.ten s_;have j:=a g.pods s_;have l:=b g.run s_;have m:=b g.lev s_;have f:=b g.pref s_;simp only[Gan.il,Az,List.not_mem_nil,or_false]at c;rcases c with rfl|rfl|rfl|rfl|rfl|rfl|rfl|rfl|rfl<;>omega
def aPE(g:Gan)(h:g.ok=O):bj 109 [g.av] (HA (pl g.il)):=by
 obtain⟨h1,a,h3⟩:=gan_b h;have hm:=aIy h;have k:=pn_len (hm g.id (by simp[Gan.il]));have j:=pn_len (hm g.ten (by simp[Gan.il]));have i:=pn_len (hm g.pods (by simp[Gan.il]));have d:=pn_len (hm g.run (by simp[Gan.il]));have e:=pn_len (hm g.lev (by simp[Gan.il]));have c:=pn_len (hm g.pref (by simp[Gan.il]));have b:=pl_len (v3_m a);simp only[V3.l,Al,Bj]at b;refine c_ f109 λ_=>?_
 repeat' first|refine pA ?_|refine .p (sL _) ?_|refine .p (A3 g.need a) ?_|refine Aa (by simp only[Ah,V3.l];omega) ?_|exact rfl|refine lA ?_ ?_|intro h
 simp[pl,Gan.il,V3.l]
def aGn(x:Cmd)(F:(Z (hav x.c.hs):Int)<=24)(v:nH x.c.hs=O)(k:okI [x.c.half,x.c.age]=O)(B:ay):∀(n i:Nat) (bs:ay),i+n=Z x.c.hs->Z bs+60*n<=20000->bs++(pl (hosL (x.c.hs.drop i))++pl [x.c.half,x.c.age])=B->
  To E f63 (.pure (Io (HA B))) (G0 (stk f63 1) [(1,G2 0 0),(3,HA bs),(6,GE Is i)] [Go.AW.ab.cells 47 x.cs]):=by
 have s:Z (hav x.c.hs)=Z x.c.hs:=by simp
 have w:=pn_len (n:=x.c.half) (by have:=okI_b k x.c.half s_;omega);have G:=pn_len (n:=x.c.age) (by have:=okI_b k x.c.age s_;omega);intro n;induction n with
 | zero=>
  intro i bs q j a;rw[Ae o_]at a;have a:bs++pl [x.c.half,x.c.age]=B:=a;subst a;refine gV ?_;refine aF λh=>?_
  repeat' first|refine pA ?_|refine .p (sL _) ?_|refine Aa (by simp only[Ah];omega) ?_|exact rfl|refine lA ?_ ?_|intro h
  simp[pl]
 | succ n o=>
  intro i bs q j a;have d:i<Z x.c.hs:=o_;rw[Ac d]at a;have e:=aCP v i d;generalize u:x.c.hs[i]=y at a e;have a:bs++(pl (y.il++hosL (x.c.hs.drop (i+1)))++pl [x.c.half,x.c.age])=B:=a;obtain⟨h1,m⟩:=aBX e;have p:=pl_len (v3_m m);have z:=ih_len y e;have g:=okI_b h1;have Be:=pn_len (n:=y.f) (by have:=g y.f s_;omega);have C:=pn_len (n:=y.b) (by have:=g y.b s_;omega);have A:=pn_len (n:=y.r) (by have:=g y.r s_;omega);simp only[V3.l,Al,Bj]at p;have ex:pl y.il=putN y.f.toNat++putN y.b.toNat++putN y.r.toNat++pl y.c.l:=by simp[pl,Hos.il,V3.l]
  rw[pl_append,Ag,<-Ag,ex]at a;have get:(hav x.c.hs)[i]? =X y.av:=(nC d).trans (by rw[u]);refine gV ?_;refine aT λh=>?_
  repeat' first|refine pA ?_|refine .p (sL _) ?_|refine .p (A3 y.c m) ?_|refine⟨_,get,?_⟩|refine Aa (by simp only[Ah,V3.l];omega) ?_|exact rfl|refine lA ?_ ?_|intro h
  refine To.cut [1,3,6] 1 rfl rfl rfl rfl ?_;exact o (i+1) _ o_ (by rw[<-ex];simp;omega) a
def aGl(x:Cmd)(G:(Z (nav x.c.ns):Int)<=12)(A:(Z (hav x.c.hs):Int)<=24)(f:uL x.c.ns=O)(F:nH x.c.hs=O)(v:okI [x.c.half,x.c.age]=O)(B:ay):∀(n i:Nat) (bs:ay),i+n=Z x.c.ns->Z bs+110*n<=10000->
  bs++(pl (nodL (x.c.ns.drop i))++(pl [(Z (hav x.c.hs):Int)]++(pl (hosL x.c.hs)++pl [x.c.half,x.c.age])))=B->
  DE E f63 (HA B) [(1,G2 0 0),(3,HA bs),(4,GE Is i)] [Go.AW.ab.cells 47 x.cs]:=by
 have C:Z (nav x.c.ns)=Z x.c.ns:=by simp
 have s:Z (hav x.c.hs)=Z x.c.hs:=by simp
 intro n;induction n with
 | zero=>
  intro i bs u g a;rw[Ae o_]at a;have a:bs++(pl [(Z (hav x.c.hs):Int)]++(pl (hosL x.c.hs)++pl [x.c.half,x.c.age]))=B:=a;rw[<-Ag,show pl [(Z (hav x.c.hs):Int)]=putN (Z (hav x.c.hs):Int).toNat from Ao _]at a;have z:=pn_len (n:=(Z (hav x.c.hs):Int)) o_;refine gV ?_;refine aF λh=>?_
  repeat' first|refine pA ?_|refine .p (sL _) ?_|refine Aa (by simp only[Ah];omega) ?_|exact rfl|refine lA ?_ ?_|intro h
  refine To.cut [1,3,6] 1 rfl rfl rfl rfl ?_;exact aGn x A F v B (Z x.c.hs) 0 _ o_ (by simp only[Ah];omega) a
 | succ n m=>
  intro i bs u g a;have d:i<Z x.c.ns:=o_;rw[Ac d]at a;have e:=aCO f i d;generalize Be:x.c.ns[i]=y at a e;have a:bs++(pl (y.il++nodL (x.c.ns.drop (i+1)))++_)=B:=a;obtain⟨h1,J,h3,j,k⟩:=aBz e;have z:=pn_len (n:=y.p+1) o_;have I:=pn_len (n:=y.w) o_;have o:=pl_len (v3_m h3);have q:=pl_len (v3_m j);have r:=pl_len (v3_m k);have H:=il_len y e;simp only[V3.l,Al,Bj]at o q r;have ex:pl y.il=putN (y.p+1).toNat++putN y.w.toNat++pl y.n.l++pl y.b.l++pl y.l.l:=by simp[pl,Nod.il,V3.l]
  rw[pl_append,Ag,<-Ag,ex]at a;have get:(nav x.c.ns)[i]? =X y.av:=(fL d).trans (by rw[Be]);refine gV ?_;refine aT λh=>?_
  repeat' first|refine pA ?_|refine .p (sL _) ?_|refine .p (A3 y.n h3) ?_|refine .p (A3 y.b j) ?_|refine .p (A3 y.l k) ?_|refine⟨_,get,?_⟩|refine Aa (by simp only[Ah,V3.l];omega) ?_|exact rfl|refine lA ?_ ?_|intro h
  refine To.cut [1,3,4] 1 rfl rfl rfl rfl ?_;exact m (i+1) _ o_ (by rw[<-ex];simp;omega) a
def aGk(x:Cmd)(T:Told x):bj 63 [x.av] (HA (pl x.il)):=by
 have o:Z (nav x.c.ns)=Z x.c.ns:=by simp
 have l:x.k<=9223372036854775807:=by have:=T.k;omega
 have hp:=pn_len l;have q:=pn_len (n:=(Z (nav x.c.ns):Int)) (by have:=T.ln;omega);have p:=pn_len (n:=x.n) (by have:=T.nok;omega);have m:=pl_len (aIy T.gok);simp only[Gan.il,Al,Bj]at m;have j:=T.cok;simp only[Con.tok,Af]at j;obtain⟨⟨e,b⟩,d⟩:=j;refine c_ f63 λ_=>?_
 repeat' first|refine pA ?_|refine .p (sL _) ?_|refine .p (aPE x.g T.gok) ?_|refine Aa (by simp only[Ah,Gan.il];omega) ?_|exact rfl|refine lA ?_ ?_|intro h
 .have h1:(x.k==1)=true:=h;have il:=il_cons x x.c.il (by rw[h1];rfl);refine To.cut [1,3,4] 1 rfl rfl rfl rfl ?_;exact aGl x T.ln T.lh e b d _ (Z x.c.ns) 0 _ o_ (by have:=T.ln;simp only[Ah];omega) (by rw[<-il];simp only[Con.il,pl_append,Ag,Ca];simp[pl])
 .rename_i h1;have h1:(x.k==1)=false:=h1;have a:(x.k==2)=true:=h;rw[<-il_cons x x.g.il (by rw[h1,a];rfl)]
 .rename_i h1 a;have h1:(x.k==1)=false:=h1;have a:(x.k==2)=false:=a;have i:(x.k==6)=true:=h;rw[<-il_cons x [] (by rw[h1,a,i];rfl)];simp[pl]
 .rename_i h1 a;have h1:(x.k==1)=false:=h1;have a:(x.k==2)=false:=a;have i:(x.k==6)=false:=h;rw[<-il_cons x [x.n] (by rw[h1,a,i];rfl)];simp[pl]
def renc_ok(x:Cmd):bj 23 [x.av] (GT [HA (encB x),ii (chk x)]):=by
 refine c_ f23 λ_=>gV ?_;refine .p (aDG x) (gV ?_);refine⟨λh=>?_,λh=>?_⟩
 .have h:(chk x !=0)=true:=h;have a:¬ chk x=0:=by simpa using h
  have e:encB x=[]:=bt a;rw[e];refine gW hE ?_;conv=>whnf
 .have h:(chk x !=0)=false:=h;have a:chk x=0:=by simpa using h
  have e:encB x=pl x.il:=bu a;rw[e,a];refine gV ?_;refine .p (aGk x (chk_told a)) ?_;refine gW hE ?_;conv=>whnf
end Go.Proofs.YtenkdioaefckoaaGreatDoor.C8
namespace Go.Proofs.YtenkdioaefckoaaGreatDoor
open Go.Proofs.Tryz
open Go Go.AW Go.Proofs
abbrev cmv(l:List Cmd):az:=l.map Cmd.av
open Go.ChangeShapes Go.WideShapes Go.ChangeAt Go.RowKit
set_option maxRecDepth 100000
def JW{H:Type}(d:DataW H):1<=Rows.uptoBulk d:=by
 cases d with
 | lit l=>cases l<;>simp[Rows.uptoBulk]
 | _=>simp[Rows.uptoBulk]
def lI{H:Type}{d:DataW H}:∀{l:List (DataW H)},d∈l->Rows.uptoBulk d<=Rows.uptoBulkAll l
 | [],h=>by cases h
 | x::r,h=>by
  simp only[Rows.uptoBulkAll];rcases Az.1 h with rfl|h
  .omega
  .have:=lI h;omega
def wD{H:Type}:∀(l:List (DataW H)),Z l<=Rows.uptoBulkAll l
 | []=>by simp
 | x::r=>by have:=JW x;have:=wD r;simp only[Rows.uptoBulkAll,Al];omega
def aCI(H:Type)(N:Nat):Bulk H N (λd=>Rows.uptoBulk d<=N) where
 str l h:=by simp only[Rows.uptoBulk]at h;omega
 sl e r h:=by simp only[Rows.uptoBulk]at h;have:=wD e;exact⟨by omega,λd hd=>by have:=lI hd;omega⟩
 agg l h:=by simp only[Rows.uptoBulk]at h;exact λd hd=>by have:=lI hd;omega
section
variable {N:Nat}
def XD{n:Nat}{cs:az}(h:TyN Tryz.prog N (n+1) 3 cs):∃m:Int,cs=[ii m]/\ -9223372036854775808<=m/\m<=9223372036854775807:=by unfold TyN at h;rw[underlying3]at h;obtain⟨m,h,h1,a⟩:=h;simp only[bS,aX]at h1 a;exact⟨m,h,by omega,by omega⟩
def dH{n:Nat}{cs:az}(h:TyN Tryz.prog N (n+1) 3 cs):∃m:Int,cs=[ii m]:=by unfold TyN at h;rw[underlying3]at h;obtain⟨m,h,_⟩:=h;exact⟨m,h⟩
def uQ{n:Nat}{cs:az}(h:TyN Tryz.prog N (n+2) 43 cs):∃v:V3,cs=v.cs:=by
 unfold TyN at h;rw[underlying43]at h;obtain⟨xs,hl,d,rfl⟩:=h
 match xs,hl,d with
 | [x,y,z],_,d=>
  obtain⟨a,rfl⟩:=dH (d x s_);obtain⟨b,rfl⟩:=dH (d y s_);obtain⟨c,rfl⟩:=dH (d z s_);exact⟨⟨a,b,c⟩,rfl⟩
def XF{n:Nat}{cs:az}(h:TyN Tryz.prog N (n+3) 45 cs):∃g:Gan,cs=g.cs:=by unfold TyN at h;rw[underlying45]at h;obtain⟨p,r,rfl,e,u,r,rfl,h1,o,r,rfl,j,s,r,rfl,h3,x,r,rfl,i,q,r,rfl,k,w,r,rfl,l,rfl⟩:=h;obtain⟨f,rfl⟩:=dH e;obtain⟨a,rfl⟩:=dH h1;obtain⟨b,rfl⟩:=dH j;obtain⟨v,rfl⟩:=uQ h3;obtain⟨c,rfl⟩:=dH i;obtain⟨m,rfl⟩:=dH k;obtain⟨d,rfl⟩:=dH l;exact⟨⟨f,a,b,v,c,m,d⟩,rfl⟩
def B9{α:Type}{av:α->aa}{P:aa->Prop}{Q:α->Prop}(b:∀x,P x->∃p:α,x=av p/\Q p):∀(xs:az),(∀x∈xs,P x)->∃l:List α,xs=l.map av/\∀p∈l,Q p
 | [],_=>⟨[],rfl,λp h=>by cases h⟩
 | x::xs,h=>by
  obtain⟨p,rfl,hp⟩:=b x (h x s_);obtain⟨l,rfl,hl⟩:=B9 b xs λx c=>h x (by simp[c])
  exact⟨p::l,rfl,λq a=>by
   rcases Az.1 a with rfl|a
   .exact hp
   .exact hl q a⟩
end
section
variable {N:Nat}
def XC{n:Nat}{cs:az}(h:TyN Tryz.prog N (n+3) 130 cs):∃x:Nod,cs=x.cs:=by unfold TyN at h;rw[underlying130]at h;obtain⟨g,r,rfl,c,j,r,rfl,h1,f,r,rfl,e,i,r,rfl,h3,k,r,rfl,d,rfl⟩:=h;obtain⟨b,rfl⟩:=dH c;obtain⟨a,rfl⟩:=dH h1;obtain⟨u,rfl⟩:=uQ e;obtain⟨v,rfl⟩:=uQ h3;obtain⟨w,rfl⟩:=uQ d;exact⟨⟨b,a,u,v,w⟩,rfl⟩
def XE{n:Nat}{cs:az}(h:TyN Tryz.prog N (n+3) 132 cs):∃x:Hos,cs=x.cs:=by unfold TyN at h;rw[underlying132]at h;obtain⟨g,r,rfl,e,i,r,rfl,h1,f,r,rfl,d,j,r,rfl,h3,rfl⟩:=h;obtain⟨a,rfl⟩:=dH e;obtain⟨b,rfl⟩:=dH h1;obtain⟨c,rfl⟩:=dH d;obtain⟨v,rfl⟩:=uQ h3;exact⟨⟨a,b,c,v⟩,rfl⟩
def OL{n:Nat}{cs:az}(h:TyN Tryz.prog N (n+4) 27 cs):∃l:bf,cs=[CA 11 (nav l) J0]/\Z l<=N:=by
 unfold TyN at h;rw[underlying27]at h;obtain⟨xs,rfl,b,a⟩:=h;have c:Tryz.prog.cellsOf 130=11:=by kernel_rfl
 obtain⟨l,rfl,hl⟩:=B9 (av:=Nod.av) (Q:=λx=>True) (P:=λx=>x∈xs) (λx hm=>by
  obtain⟨cs,rfl⟩:=(a x hm).2.1 (by kernel_rfl);obtain⟨p,hp⟩:=XC (n:=n) (a _ hm).1
  exact⟨p,by unfold Nod.av;rw[<-hp];rfl,trivial⟩) xs λx hm=>hm
 exact⟨l,by rw[c],by simpa using b⟩
def OM{n:Nat}{cs:az}(h:TyN Tryz.prog N (n+4) 28 cs):∃l:List Hos,cs=[CA 6 (hav l) J0]/\Z l<=N:=by
 unfold TyN at h;rw[underlying28]at h;obtain⟨xs,rfl,b,a⟩:=h;have c:Tryz.prog.cellsOf 132=6:=by kernel_rfl
 obtain⟨l,rfl,hl⟩:=B9 (av:=Hos.av) (Q:=λx=>True) (P:=λx=>x∈xs) (λx hm=>by
  obtain⟨cs,rfl⟩:=(a x hm).2.1 (by kernel_rfl);obtain⟨p,hp⟩:=XE (n:=n) (a _ hm).1
  exact⟨p,by unfold Hos.av;rw[<-hp];rfl,trivial⟩) xs λx hm=>hm
 exact⟨l,by rw[c],by simpa using b⟩
def aFx{n:Nat}{cs:az}(h:TyN Tryz.prog 1048576 (n+5) 30 cs):∃c:Con,cs=c.cs/\c.sm:=by unfold TyN at h;rw[underlying30]at h;obtain⟨j,r,rfl,b,l,r,rfl,h1,i,r,rfl,e,k,r,rfl,h3,rfl⟩:=h;obtain⟨ns,rfl,f⟩:=OL (n:=n) b;obtain⟨hs,rfl,d⟩:=OM (n:=n) h1;obtain⟨a,rfl⟩:=dH e;obtain⟨g,rfl⟩:=dH h3;exact⟨⟨ns,hs,a,g⟩,rfl,⟨f,d⟩⟩
end
def aAS{n:Nat}{cs:az}(h:TyN Tryz.prog 1048576 (n+6) 47 cs):∃x:Cmd,cs=x.cs/\CmSm x:=by unfold TyN at h;rw[underlying47]at h;obtain⟨f,r,rfl,a,j,r,rfl,h1,e,r,rfl,b,i,r,rfl,h3,rfl⟩:=h;obtain⟨k,rfl⟩:=dH a;obtain⟨c,rfl,d⟩:=aFx (n:=n) h1;obtain⟨g,rfl⟩:=XF (n:=n+2) b;obtain⟨m,rfl,hm⟩:=XD h3;exact⟨⟨k,c,g,m⟩,rfl,d,hm⟩
section
variable {H:Type} {enc:TypeId×Value->H} {W:World} {r:Reach} {base b0:Nat} {spare:Nat->Bool} {held:Bool} {v:Value} {d:DataW H} {ps:List MemPlace}
def HX(a:Dw Tryz.prog W r b0 3 v):∃n:Int,Rep (Mw W) [] v (ii n):=by obtain⟨m,rfl,h⟩:=PQ (k:= .i64) (by kernel_rfl) (vQ (by kernel_rfl) a);exact⟨m,.int _ m h⟩
def CV(f:Dw Tryz.prog W r b0 54 v)(h:DataW.Trod enc Tryz.prog W base spare held 54 v d ps)(i:Rows.uptoBulk d<=1048576):∃l:List Cmd,Rep (Mw W) [] v (.slice 15 (cmv l) .no)/\Z l<=1048576/\∀x∈l,CmSm x:=by
 obtain⟨xs,a,c,b⟩:=zV (n:=6) (aCI H 1048576) underlying54 (by kernel_rfl) f h i;have g:Tryz.prog.cellsOf 47=15:=by kernel_rfl
 obtain⟨l,rfl,hl⟩:=B9 (av:=Cmd.av) (Q:=CmSm) (P:=λx=>x∈xs) (λx hm=>by
  obtain⟨cs,rfl⟩:=(b x hm).2.1 (by kernel_rfl);obtain⟨p,hp,e⟩:=aAS (n:=0) (b _ hm).1
  exact⟨p,by unfold Cmd.av;rw[<-hp];rfl,e⟩) xs λx hm=>hm
 rw[g]at a;exact⟨l,a,by simpa using c,hl⟩
end
def P7(f:Bool)(m n:Int)(s:ay):ar 88 [G2 0 0] (jdO m f n s) (Io (ii m)) (jdO m f n s):=by
 cases f
 .refine eA E f88 2 λ_=>?_;exact zW
 .refine eA E f88 3 λ_=>?_;exact zW
def OQ(s:Sta)(m:Int)(f:Bool)(n:Int)(x:ay):ar 55 [G2 0 0] (stS s m f n x) (Io (ii m)) (stS s m f n x):=by
 have h1:=P7 f m n x;cases f
 all_goals
  refine eA E f55 _ λ_=>?_
  repeat' first|refine pA ?_|refine .eff [] [1,2] _ _ rfl h1 ?_|refine .eff [] [1,2,3] _ _ rfl h1 ?_|exact zx [0,1,2]|exact zx [0,1,2,3]|exact rfl|refine lA ?_ ?_|intro h
def bG(n:Int):Sta:={mA with now:=n}
def aFF:aC mA (cI 1)=(bG 1,[],0):=by decide+kernel
def aFE:aC (bG 1) (cI 2)=(bG 3,[],0):=by decide+kernel
def KB.sd1{t:Kst}{k:Nat}(h:KB t k)(f:Bool)(c:Cmd)(a:c.k=1->c.c.sm){d:Dk}{i:Int}{S:Sta}{ev:bh}(e:doS t c=(⟨d,i,S⟩,ev,0)):
  ar 22 [G2 0 0,c.av] (stS t.s t.n f t.d.size t.d.safe) (Io (GT [CA 3 (evv ev) J0,ii 0])) (stG S i f d.size d.safe):=by
 by_cases q:(aC t.s c).2.2=0
 .by_cases b:eV t.d (crB c)=0
  .have h1:=(h.do_ok c a f q b).1;rw[lD q b]at e;simp only[Prod.mk.injEq,Kst.mk.injEq]at e;obtain⟨⟨rfl,rfl,rfl⟩,rfl,_⟩:=e;exact h1
  .have:=(h.do_e c a f (.inr b)).2.2.2.2.2;rw[e]at this;exact bv rfl this
 .have:=(h.do_e c a f (.inl q)).2.2.2.2.2;rw[e]at this;exact bv rfl this
def CG(n:Int):bj 54 [ii n] ((cI n).av):=by exact c_ f54 λ_=>zW
def XH:(aC (bG 3) (cI 0)).2.2=1:=by decide+kernel
def w26:∃a d f g,aK (jP 1000) (tk 1 1 0)=(⟨a,d,bG 1⟩,[],0)/\aK ⟨a,d,bG 1⟩ (tk 1 2 0)=(⟨f,g,bG 3⟩,[],0)/\gD ⟨f,g,bG 3⟩=0:=by
 obtain⟨a,d,i,h,w⟩:=pM (t:=jP 1000) (c:=cI 1) 0 2 900 aFF d_ d_ d_ (by show((0:Nat):Int)+_<=_;decide);obtain⟨f,g,j,k,y⟩:=pM (t:=⟨a,d,bG 1⟩) (c:=cI 2) 0 2 800 aFE d_ d_ d_ (by unfold yE at *;dsimp only at *;omega);refine⟨a,d,f,g,i,j,?_⟩;have hz:f.size=1000:=by subst k;show a.size=_;subst h;rfl
 have A:Z (cG (bG 3))<=900:=by
  have v:Z (kG (bG 3))<=50:=by
   have:=C8.pl_len (l:=(bG 3).cmd.il) d_;have x:Z (bG 3).cmd.il<=5:=by decide
   unfold kG C8.encB;split
   .omega
   .simp
  have u:Z (C8.putN (Z (kG (bG 3))))<=10:=by have:=C8.pn_len (n:=(Z (kG (bG 3)):Int)) o_;rw[Int.toNat_natCast]at this;omega
  have o:=C8.pl_len (l:=[(bG 3).now,(bG 3).nxt,(Z (bG 3).hist:Int)]) d_;have q:=C8.pl_len (l:=[(Z (bG 3).pend:Int)]) d_;have z:=C8.pl_len (l:=[(Z (bG 3).run:Int)]) d_;unfold cG;simp only[Ah,Al,Bj]at *
  have p:Z (zH (bG 3).hist)=0:=rfl;have m:Z (uC (bG 3).pend)=0:=rfl;have r:Z (qE (bG 3).run)=0:=rfl;omega
 have e:(Rec.b (.s (bG 3)))=83::cG (bG 3):=rfl;unfold gD;dsimp only;rw[e,hz,bt (by simp only[Al];omega),bt (by simp only[Al];omega)]
def KB.sst{t:Kst}{k:Nat}(h:KB t k)(f:Bool):ar 20 [G2 0 0] (stS t.s t.n f t.d.size t.d.safe) (Io t.s.av) (stS t.s t.n f t.d.size t.d.safe):=by have h1:=wO t.s _ (h.sap Cmd.zero (λe=>by cases e)) t.n f t.d.size t.d.safe;rw[(B3 t.s).1]at h1;exact h1
def pF(g:ay):ar 17 [] [bH g] (Io (DA O)) [bH g]:=by
 obtain⟨b,e,a,n,i,m,o⟩:=w26;have l:=kb0 1000;have k:=l.step d_ (tk 1 1 0) (λh=>by cases h);rw[i]at k;have j:=k.step d_ (tk 1 2 0) (λh=>by cases h);rw[show aK (⟨b,e,bG 1⟩,([]:bh),(0:Int)).1 (tk 1 2 0)=_ from m]at j;have c:=j.step d_ ⟨2,Cmd.zero,0⟩ (λh=>by cases h);have r:b.size=(jP 1000).d.size:=by have:=kD (jP 1000) (cI 1);rw[show doS (jP 1000) (cI 1)=(⟨b,e,bG 1⟩,[],0)from i]at this;exact this
 have q:a.size=b.size:=by have:=kD ⟨b,e,bG 1⟩ (cI 2);rw[show doS ⟨b,e,bG 1⟩ (cI 2)=(⟨a,n,bG 3⟩,[],0)from m]at this;exact this
 rw[show(aK (⟨a,n,bG 3⟩,([]:bh),(0:Int)).1 ⟨2,Cmd.zero,0⟩).1=jG ⟨a,n,bG 3⟩from rfl,AY o]at c;have z:=nL 1000;have h1:=l.sop U g;have u:=l.sd1 U (cI 1) (λh=>by cases h) i;have h3:=k.sd1 O (cI 2) (λh=>by cases h) m;have t:=j.snap_ok O o;have v:=OQ (bG 3) 1 U a.size (frm (83::cG (bG 3)));have w:=c.sop U g;obtain⟨p,_,_,_,_,_⟩:=c.do_e (cI 0) (λh=>by cases h) U (.inl (by show(aC (bG 3) (cI 0)).2.2≠0;rw[XH];decide));have y:(doS ⟨⟨a.size,frm (83::cG (bG 3)),[],U⟩,1,bG 3⟩ (cI 0)).2.2=1:=by unfold doS;rw[bu (show(aC (bG 3) (cI 0)).2.2≠0 by rw[XH];decide)];exact XH
 rw[show ∀x:Kst×bh×Int,x.2.2=1->ii x.2.2=ii 1 from λx h=>by rw[h]]at p<;>try exact y
 have s:=c.sst U;have B:=CG;dsimp only at *
 simp only[q,r]at u h3 t v w p s;clear l k j c i m o y r q;generalize frm (83::cG (bG 3))=An at *
 generalize b.safe=x1 at *
 generalize a.safe=x2 at *
 refine eA E f17 1 λ_=>?_
 repeat' first
  | (refine To.partC [1,2,5,7] [0,1,2,3,4] rfl rfl rfl (?_:To E f17 _ (.code (eO f17 6) _ _));refine goN hE 1 rfl ?_;conv=>whnf)
  | (refine goN hE 1 rfl ?_;conv=>whnf)
  | refine .p z ?_
  | refine .p (B _) ?_
  | refine .eff [] [1,0] _ _ rfl h1 ?_
  | refine .eff [] [3,2,1] _ _ rfl u ?_
  | refine .eff [] [3,2,1,4] _ _ rfl h3 ?_
  | refine .eff [] [3,2,1,4] _ _ rfl t ?_
  | refine .eff [] [3,2,1] _ _ rfl v ?_
  | refine .eff [] [1,0] _ _ rfl w ?_
  | refine .eff [] [3,2,1] _ _ rfl p ?_
  | refine .eff [] [6,5,1] _ _ rfl s ?_
  | exact rfl
  | refine zt ?_
  | exact zx [0]
def G7(L:List Cmd)(i:Nat)(n:Int)(h:Z L<=i\/500<=n)(b:i<=1048576):DE E f16 (DA (decide (n<500))) [(0,CA 15 (cmv L) J0),(3,ii n),(4,ii i)] []:=by
 have a:Z (cmv L)=Z L:=by simp
 by_cases c:n<500
 .refine gV ?_
  repeat' first|refine pA ?_|exact rfl|refine lA ?_ ?_|intro h
 .by_cases b:Z L<=i
  .refine gV ?_
   repeat' first|refine pA ?_|exact rfl|refine lA ?_ ?_|intro h
  .refine gV ?_
   repeat' first|refine pA ?_|exact rfl|refine lA ?_ ?_|intro h
def O1(L:List Cmd)(q:Z L<=1048576)(l:∀p∈L,p.c.sm)(R:Int):∀(m i:Nat) (n:Int),i+m=Z L->0<=n->n<=3000000->smR 500 ((L.drop i).map Cmd.c) n=R->
  DE E f16 (DA (decide (R<500))) [(0,CA 15 (cmv L) J0),(3,ii n),(4,ii i)] []:=by
 have f:Z (cmv L)=Z L:=by simp
 intro m;induction m with
 | zero=>
  intro i n g _ _ a;rw[Ae o_]at a;have a:n=R:=a;subst a;exact G7 L i n (.inl o_) o_
 | succ m d=>
  intro i n g r h1 a;have b:i<Z L:=o_;rw[Ac b]at a;have get:(cmv L)[i]? =X L[i].av:=by simp[b]
  have hp:=l L[i] (Aq b);generalize L[i]=p at a get hp;rw[Bf]at a;unfold smR at a;by_cases e:n<500
  .rw [bu e]at a;obtain⟨j,k⟩:=aAD hp;have next:=d (i+1) (n+wgt p.c) o_ o_ o_ a
   have u:Z (nav p.c.ns)=Z p.c.ns:=by simp
   have o:Z (hav p.c.hs)=Z p.c.hs:=by simp
   have t:=hp.ns;have s:=hp.hs;unfold wgt at next
   clear d a j k;refine gV ?_
   repeat' first|refine pA ?_|refine⟨i,rfl,?_⟩|refine⟨_,get,?_⟩|exact rfl|refine lA ?_ ?_|intro h
   exact To.part [0,3,4] [] rfl rfl rfl next
  .rw [bt e]at a;subst a;exact G7 L i n (.inr o_) o_
def sI(L:List Cmd)(b:Z L<=1048576)(a:∀p∈L,p.c.sm):∃r:Bool,bj 16 [CA 15 (cmv L) J0] (DA r):=by
 refine⟨decide (smR 500 (L.map Cmd.c) 0<500),?_⟩
 .have next:=O1 L b a _ (Z L) 0 0 o_ d_ d_ (by rw[Ca])
  generalize smR 500 (L.map Cmd.c) 0=R at *
  refine c_ f16 λ_=>?_
  repeat' first|refine pA ?_|exact rfl|refine lA ?_ ?_|intro h
  exact To.part [0,3,4] [] rfl rfl rfl next
abbrev kpO(f:Bool)(g:ay)(t:Kst):aw:=match f with
 | true=>[bH g,dkC t.d.size (sfV O 4 t.d.safe) aR U,jnO 1 t.n,.cells tSt (.ref 2 0::t.s.cs),.tail 0 1 5]
 | false=>[bH g,dkC t.d.size (sfV U 4 t.d.safe) aR U,jnO 1 t.n,.cells tSt (.ref 2 0::t.s.cs)]
def aOu{x:Int}(a:0<=x):∃z:Int,0<=z/\z<400/\Ng x 400=z:=⟨_,Int.tmod_nonneg _ a,Int.tmod_lt_of_pos _ d_,rfl⟩
abbrev fuF(L:List Cmd)(z:Int)(i:Nat):au:=[(0,CA 15 (cmv L) J0),(1,ii z),(5,G2 1 0),(6,G2 3 0),(8,ii i)]
def aIA(L:List Cmd)(z:Int)(i:Nat)(h:Z L<=i\/30<=i)(e:Z L<=1048576)(d:i<=1048576)(g:ay)(t:Kst)(f:Bool):To (Er [] [16,17,98,99]) f4 (.full 1 (Io (DA O)) [bH g]) (BV f4 (fuF L z i) (kpO f g t)):=by
 have a:Z (cmv L)=Z L:=by simp
 have c:=pF g;by_cases b:Z L<=i<;>cases f
 all_goals
  refine gV ?_
  repeat' first|refine pA ?_|refine .eff [] [0] _ _ rfl c ?_|exact zx [0]|exact rfl|refine lA ?_ ?_|intro h
def aUc{t:Kst}{c:Cmd}(q:eV t.d (crB c)≠0):eV t.d (crB c)=9/\t.d.size-Z t.d.safe<Z (crB c)+8:=by
 have:=aEv c;have e:Z (crB c)=Z (C8.encB c)+1:=Al;unfold eV at *
 rw[bt o_]at *
 split at q
 .rename_i h;rw[bu h];exact⟨rfl,h⟩
 .exact bv rfl q
def aMW(L:List Cmd)(F:L.length<=1048576)(D:∀ p∈L,CmSm p)(z:Int)(U:0<=z)(V:z<400)(g:ay):∀ (m i:Nat) (t:Kst) (k:Nat) (f:Bool),i+m=L.length->i<=30->KB t k->k<=i->t.d.size=z->
  To (Er [] [16,17,98,99]) f4 (.full 1 (.ret (.bool true)) [bH g]) (.head (stk f4 0) (fuF L z i) (kpO f g t)):=by
 have H:(cmv L).length=L.length:=by simp
 intro m;induction m with
 | zero=>
  intro i t k f N _ l _ _;exact aIA L z i (.inl o_) F o_ g t f
 | succ m G=>
  intro i t k f N K l J hz;by_cases O:i=30
  .exact aIA L z i (.inr o_) F o_ g t f
  have v:i<L.length:=o_;have get:(cmv L)[i]? =some L[i].av:=by simp [v]
  have hp:=D L[i] (Aq v);generalize L[i]=c at get hp;have hs:=l.sst f;have T:=l.lens;have j:=lG f t.d.size t.d.safe o_;have x:=C8.renc_ok c;have w:=xT t.s c (l.okT.ok.st l.okT.lt) (λ_=>hp.c) hp.n;have hm:=wR t.s t.s l.okT.small.1 l.okT.small.2 true (sK t.s);have hE:=aEv c;have S:(crB c).length=(C8.encB c).length+1:=Al;have u:KB (doS t c).1 (k+1):=l.step o_ ⟨1,c,0⟩ (λ_=>hp.c);have hz2:(doS t c).1.d.size=z:=by rw [kD];exact hz
  have next:=λ P=>G (i+1) (doS t c).1 (k+1) P o_ o_ u o_ hz2
  clear G u hz2;by_cases y:(aC t.s c).2.2=0/\eV t.d (crB c)=0
  .obtain ⟨A,B⟩:=y;have h1:=(l.do_ok c (λ_=>hp.c) f A B).1;obtain ⟨_,W⟩:=rZ B;have next:=next true
   rw [lD A B] at next
   unfold aEX at next
   dsimp only at next
   rw [LK A] at w;subst hz;have r:True:=trivial;have o:(!(((0:Int)==9)==decide (t.d.size<(t.d.safe.length:Int)+((C8.encB c).length:Int)+9)))=false:=by rw [decide_eq_false o_];rfl
   have bs:True:=trivial;clear l D hp;generalize C8.encB c=Y at *
   generalize aC t.s c=R at *
   cases f
   all_goals
    refine gV ?_
    repeat' first | (refine gN (hEr [] [16,17,98,99]) ?_;conv=>whnf) | exact To.part [0,1,5,6,8] [0,1,2,3] rfl rfl rfl next | exact To.part [0,1,5,6,8] [0,1,2,3,5] rfl rfl rfl next | exact To.part [0,1,5,6,8] [0,1,2,3,4] rfl rfl rfl next | refine ⟨i,rfl,?_⟩ | refine ⟨_,get,?_⟩ | refine .eff [] [3,2,1] _ _ rfl hs ?_ | refine .eff [] [3,2,1,4] _ _ rfl hs ?_ | refine .eff [] [1] _ _ rfl j ?_ | refine .eff [] [1,4] _ _ rfl j ?_ | refine .eff [] [3,2,1] _ _ rfl h1 ?_ | refine .eff [] [3,2,1,4] _ _ rfl h1 ?_ | refine .look [3,2,1] _ _ rfl rfl hs (λ_=>rfl) (λ_=>rfl) ?_ | refine .look [3,2,1,4] _ _ rfl rfl hs (λ_=>rfl) (λ_=>rfl) ?_ | refine .look [1] _ _ rfl rfl j (λ_=>rfl) (λ_=>rfl) ?_ | refine .look [1,4] _ _ rfl rfl j (λ_=>rfl) (λ_=>rfl) ?_ | refine .pure _ [] x ?_ | refine .pure _ [] w ?_ | refine .pure _ [] hm ?_ | refine zE r ?_ | refine zF r ?_ | refine zF o ?_ | refine zE o ?_ | refine zF bs ?_ | exact rfl | refine zt ?_ | refine zu ?_ ?_ | intro h | fail
  .have next:=next f
   have C:(aC t.s c).2.2≠0\/eV t.d (crB c)≠0:=by
    by_cases a:(aC t.s c).2.2=0
    .exact .inr λ b=>y ⟨a,b⟩
    .exact .inl a
   obtain ⟨h1,_,h3,_,_,Q⟩:=l.do_e c (λ_=>hp.c) f C;rw [h3] at next
   have key:(aC t.s c).2.2=0->(doS t c).2.2=9/\z<t.d.safe.length+(C8.encB c).length+9:=λ q=>by obtain ⟨a,b⟩:=aUc (C.resolve_left λ h=>h q);have I:eV t.d (Rec.b (.c c))=9:=a;refine ⟨?_,by omega⟩;unfold doS;rw [if_neg (by simpa using q),if_pos (by rw [I];decide)];exact a
   subst hz;have r:((doS t c).2.2 !=0)=true:=by simpa using Q
   have bs:(!(t.d.safe==t.d.safe))=false:=by simp
   generalize (doS t c).2.2=e at *
   clear l D hp C h3 y;by_cases q:(aC t.s c).2.2=0
   .obtain ⟨rfl,M⟩:=key q;rw [LK q] at w;have o:(!(((9:Int)==9)==decide (t.d.size<(t.d.safe.length:Int)+((C8.encB c).length:Int)+9)))=false:=by rw [decide_eq_true M];rfl
    clear key;generalize aC t.s c=R at *
    generalize C8.encB c=Y at *
    cases f
    all_goals
     refine gV ?_
     repeat' first | (refine gN (hEr [] [16,17,98,99]) ?_;conv=>whnf) | exact To.part [0,1,5,6,8] [0,1,2,3] rfl rfl rfl next | exact To.part [0,1,5,6,8] [0,1,2,3,5] rfl rfl rfl next | exact To.part [0,1,5,6,8] [0,1,2,3,4] rfl rfl rfl next | refine ⟨i,rfl,?_⟩ | refine ⟨_,get,?_⟩ | refine .eff [] [3,2,1] _ _ rfl hs ?_ | refine .eff [] [3,2,1,4] _ _ rfl hs ?_ | refine .eff [] [1] _ _ rfl j ?_ | refine .eff [] [1,4] _ _ rfl j ?_ | refine .eff [] [3,2,1] _ _ rfl h1 ?_ | refine .eff [] [3,2,1,4] _ _ rfl h1 ?_ | refine .look [3,2,1] _ _ rfl rfl hs (λ_=>rfl) (λ_=>rfl) ?_ | refine .look [3,2,1,4] _ _ rfl rfl hs (λ_=>rfl) (λ_=>rfl) ?_ | refine .look [1] _ _ rfl rfl j (λ_=>rfl) (λ_=>rfl) ?_ | refine .look [1,4] _ _ rfl rfl j (λ_=>rfl) (λ_=>rfl) ?_ | refine .pure _ [] x ?_ | refine .pure _ [] w ?_ | refine .pure _ [] hm ?_ | refine zE r ?_ | refine zF r ?_ | refine zF o ?_ | refine zE o ?_ | refine zF bs ?_ | exact rfl | refine zt ?_ | refine zu ?_ ?_ | intro h | fail
   .have o:((aC t.s c).2.2==0)=false:=by simpa using q
    clear key;generalize aC t.s c=R at *
    generalize C8.encB c=Y at *
    cases f
    all_goals
     refine gV ?_
     repeat' first | (refine gN (hEr [] [16,17,98,99]) ?_;conv=>whnf) | exact To.part [0,1,5,6,8] [0,1,2,3] rfl rfl rfl next | exact To.part [0,1,5,6,8] [0,1,2,3,5] rfl rfl rfl next | exact To.part [0,1,5,6,8] [0,1,2,3,4] rfl rfl rfl next | refine ⟨i,rfl,?_⟩ | refine ⟨_,get,?_⟩ | refine .eff [] [3,2,1] _ _ rfl hs ?_ | refine .eff [] [3,2,1,4] _ _ rfl hs ?_ | refine .eff [] [1] _ _ rfl j ?_ | refine .eff [] [1,4] _ _ rfl j ?_ | refine .eff [] [3,2,1] _ _ rfl h1 ?_ | refine .eff [] [3,2,1,4] _ _ rfl h1 ?_ | refine .look [3,2,1] _ _ rfl rfl hs (λ_=>rfl) (λ_=>rfl) ?_ | refine .look [3,2,1,4] _ _ rfl rfl hs (λ_=>rfl) (λ_=>rfl) ?_ | refine .look [1] _ _ rfl rfl j (λ_=>rfl) (λ_=>rfl) ?_ | refine .look [1,4] _ _ rfl rfl j (λ_=>rfl) (λ_=>rfl) ?_ | refine .pure _ [] x ?_ | refine .pure _ [] w ?_ | refine .pure _ [] hm ?_ | refine zE r ?_ | refine zF r ?_ | refine zF o ?_ | refine zE o ?_ | refine zF bs ?_ | exact rfl | refine zt ?_ | refine zu ?_ ?_ | intro h | fail
def aFX(L:List Cmd)(j:Z L<=1048576)(k:∀p∈L,CmSm p)(n:Int)(g:ay):ar 4 [CA 15 (cmv L) J0,ii n] [bH g] (Io (DA O)) [bH g]:=by
 obtain⟨r,hs⟩:=sI L j (λp hp=>(k p hp).c);have m:=pF g;have key:∀z:Int,0<=z->z<400->To (Er [] [16,17,98,99]) f4 (.full 1 (Io (DA O)) [bH g]) (.code (eO f4 1) [(0,CA 15 (cmv L) J0),(1,ii z)] [bH g]):=λz a b=>by
  have o:=nL z;have i:=kb0 z;have h1:=i.sop U g;have hz:(jP z).d.size=z:=by show min (max z 0) 1048576=z;omega
  have next:=aMW L j k z a b g (Z L) 0 (jP z) 0 U o_ d_ i o_ hz
  clear i;cases r
  .refine gV ?_
   repeat' first|refine pA ?_|refine .p hs ?_|refine .eff [] [0] _ _ rfl m ?_|exact zx [0]|exact rfl|refine lA ?_ ?_|intro h
  .refine gV ?_
   repeat' first|refine pA ?_|refine .p hs ?_|refine .p o ?_|refine .eff [] [1,0] _ _ rfl h1 ?_|exact rfl|refine lA ?_ ?_|intro h
   exact To.part [0,1,5,6,8] [0,1,2,3] rfl rfl rfl next
 refine eA (Er [] [16,17,98,99]) f4 1 λl=>?_;refine(Decidable.em (0<=n)).elim (λe=>?_) (λe=>?_)
 .have hm:=l.2.1.2;simp only[aX]at hm;obtain⟨z,a,b,hz⟩:=aOu e;refine gV ?_;refine .inl ⟨⟨e,by simp only[aX];omega⟩,?_⟩;refine gV ?_;refine⟨by decide,gV ?_⟩;rw[hz];refine .inl ⟨⟨by simp only[bS];omega,by simp only[aX];omega⟩,?_⟩
  repeat' first
   | exact To.partC [0,1] [0] rfl rfl rfl (key z a b)
   | (refine goN (hEr [] [16,17,98,99]) 1 rfl ?_;conv=>whnf)
 .obtain ⟨z,a,b,hz⟩:=aOu (jY IH n).1;refine gV ?_;refine .inr (gV ?_);refine⟨by decide,gV ?_⟩;rw[hz];refine .inl ⟨⟨by simp only[bS];omega,by simp only[aX];omega⟩,?_⟩
  repeat' first
   | exact To.partC [0,1] [0] rfl rfl rfl (key z a b)
   | (refine goN (hEr [] [16,17,98,99]) 1 rfl ?_;conv=>whnf)
end Go.Proofs.YtenkdioaefckoaaGreatDoor
