/-
  LST: what the law needs besides, and the law.
-/
import Derived.Test.YtenkdioaefckoaaGreatDoorTA
set_option linter.all false
set_option maxHeartbeats 1000000
open And renaming intro->Aa
open Bool renaming and_eq_true->Af
open Exists renaming intro->Aj
open Go.Value renaming okWide->Dw
open List renaming append_nil->Ao,getD_eq_getElem?_getD->Fk,getElem?_eq_getElem->Ab,getElem?_eq_some_iff->Ad,getElem?_of_mem->Ck,getElem_mem->Aq,length_append->Ah,length_cons->Al,length_map->Bw,length_nil->Bj,length_take->Cs,mem_cons->Az,mem_map_of_mem->Cf,take_of_length_le->Bl
open Nat renaming add_mul->Ch,beq->Av,one_mul->Hu,sub_self->Mp,zero_le->Bq
set_option maxRecDepth 10000
namespace Go.AW
open Go.RowKit Go.ChangeShapes Go.WideShapes Go.ChangeAt
section
variable {P:Program} {w:World} {r:Reach} {base:Nat} {t:TypeId} {v:Value}
theorem tC{k:IntKind}{n:Int}(h:k.has n):inR k n:=by
 cases k<;>simpa[IntKind.has,IntKind.min,IntKind.max,IntKind.signed,IntKind.bits,inR,bS,aX]using h
theorem PQ{k:IntKind}(a:P.underlying t=some (.int k))(h:Cell.okWide P w r base t v):∃n,v= .int k n/\inR k n:=by
 unfold Cell.okWide at h;rw[a]at h;unfold Cell.ok at h
 grind[tC]
theorem vQ(a:aP P t=false)(h:Dw P w r base t v):Cell.okWide P w r base t v:=by
 unfold Dw at h;unfold aP at a;split at h
 .grind
 .grind
 .exact h
end
theorem aUa{args:Array Value}(h:args.toList.length=3):∃a b c,args= #[a,b,c]:=by
 obtain⟨l⟩:=args
 match l,h with
 | [a,b,c],_=>simp
def sF(P:Program)(a:TypeId->Bool):Nat->List Field->Nat->Bool
 | off,[],total=>Av off total
 | off,f::fs,total=>(Av f.offset off&&a f.type)&&sF P a (off+P.cellsOf f.type) fs total
def fX(P:Program):Nat->TypeId->Bool
 | 0,_=>false
 | n+1,t=>match P.underlying t with
  | some .bool=>true
  | some (.int _)=>true
  | some .string=>true
  | some (.struct fs)=>sF P (fX P n) 0 fs.toList (P.cellsOf t)
  | some (.array m e)=>fX P n e&&Av (P.cellsOf t) (m*P.cellsOf e)
  | some (.slice e)=>fX P n e&&Nat.blt 0 (P.cellsOf e)
  | _=>false
section
variable {H:Type} {enc:TypeId×Value->H} {P:Program} {w:World} {base:Nat} {spare:Nat->Bool} {held:Bool}
theorem CW{r:Reach}{b0:Nat}{t e:TypeId}{v:Value}(b:P.underlying t=some (.slice e))(h:Cell.okWide P w r b0 t v):∃a n c,v= .slice a n c:=by
 unfold Cell.okWide at h;rw[b]at h;unfold Cell.ok at h;rw[b]at h;cases v<;>simp at h;simp
end
theorem YW{P:Program}{w:World}{r:Reach}{b0:Nat}{t:TypeId}{v:Value}(a:aP P t=true)(h:Dw P w r b0 t v):∃cs:Array Value,v= .agg cs:=by
 unfold Dw at h;unfold aP at a;split at h
 .grind
 .grind
 grind
section
variable {H:Type} {N:Nat} {G:DataW H->Prop} {enc:TypeId×Value->H} {P:Program} {w:World} {base:Nat} {spare:Nat->Bool} {held:Bool}
theorem sR{n m:Nat}(p:∀t,fX P n t=true->∀cs x,DataW.trod enc P w base spare held m t cs=some x->G x.1->∃vas,dD w cs vas/\TyN P N n t vas)(cs:List Value):
  ∀(c:List Field) (off:Nat),(∀f∈c,∃y,DataW.trod enc P w base spare held m f.type ((cs.drop f.offset).take (P.cellsOf f.type))=some y/\G y.1)->sF P (fX P n) off c cs.length=true->
   ∃vas,dD w (cs.drop off) vas/\TyF (TyN P N n) c vas:=by
 intro c;induction c with
 | nil=>
  intro off _ h;have:=aG h;subst this;exact⟨[],by simpa using dD.nil,rfl⟩
 | cons f c i=>
  intro off o h;simp only[sF,Af]at h;obtain⟨⟨h1,v⟩,h3⟩:=h;have d:=aG h1;obtain⟨y,q,k⟩:=o f s_;obtain⟨a,l,j⟩:=p f.type v _ y q k;obtain⟨b,s,e⟩:=i (off+P.cellsOf f.type) (λg u=>o g (by simp[u])) h3;refine⟨a++b,?_,a,b,rfl,j,e⟩;have r:cs.drop off=(cs.drop off).take (P.cellsOf f.type)++cs.drop (off+P.cellsOf f.type):=by rw[<-List.drop_drop,List.take_append_drop]
  rw[r];rw[d]at l;exact l.append s
theorem vO{n m:Nat}{e:TypeId}(h:fX P n e=true)(j:∀t,fX P n t=true->∀cs x,DataW.trod enc P w base spare held m t cs=some x->G x.1->∃vas,dD w cs vas/\TyN P N n t vas)(cs:List Value):
  ∀(k:Nat),k*P.cellsOf e<=cs.length->(∀i,i<k->∃y,DataW.trod enc P w base spare held m e ((cs.drop (i*P.cellsOf e)).take (P.cellsOf e))=some y/\G y.1)->
   ∃b:List (List aa),b.length=k/\(∀x∈b,TyN P N n e x)/\dD w (cs.take (k*P.cellsOf e)) b.flatten:=by
 intro k;induction k with
 | zero=>intro _ _;exact⟨[],rfl,λx g=>by simp at g,by simpa using dD.nil⟩
 | succ k c=>
  intro l f;rw[Ch,Hu]at l;obtain⟨b,s,u,r⟩:=c o_ (λi v=>f i o_);obtain⟨y,q,d⟩:=f k o_;obtain⟨a,p,o⟩:=j e h _ y q d;refine⟨b++[a],by simp[s],λx g=>?_,?_⟩
  .grind
  .rw [Ch,Hu,List.take_add];simp only[List.flatten_append,List.flatten_cons,List.flatten_nil,Ao];exact r.append p
theorem vP{n m:Nat}{e:TypeId}(A:fX P n e=true)(B:∀t,fX P n t=true->∀cs x,DataW.trod enc P w base spare held m t cs=some x->G x.1->∃vas,dD w cs vas/\TyN P N n t vas)(a:Addr):
  ∀(k:Nat),(∀i,i<k->∃y,((w.cells? base (a.add (i*P.cellsOf e)) (P.cellsOf e)).bind (DataW.trod enc P w base spare held m e))=some y/\G y.1)->
   ∃(xs:List aa) (us:List (List Value)),xs.length=k/\us.length=k/\∀(i:Nat) x u,xs[i]? =some x->us[i]? =some u->x.cells.length=P.cellsOf e/\(∀j,j<P.cellsOf e->w.cell? ((a.add (i*P.cellsOf e)).add j)=u[j]?)/\dD w u x.cells/\
    TyN P N n e x.cells/\(aP P e=true->∃l,x= .agg l)/\(aP P e=false->x.cells=[x]):=by
 intro k;induction k with
 | zero=>intro _;exact⟨[],[],rfl,rfl,λi x u d=>by simp at d⟩
 | succ k q=>
  intro v;obtain⟨xs,us,z,s,F⟩:=q λi C=>v i o_;obtain⟨y,o,r⟩:=v k o_;obtain⟨u,D,o⟩:=Option.bind_eq_some_iff.1 o;obtain⟨_,g,c⟩:=World.cells?_some D;obtain⟨vas,has,f⟩:=B e A _ y o r;obtain⟨x,rfl,h⟩:=f.pack;refine⟨xs++[x],us++[u],by simp[z],by simp[s],λi x' H d b=>?_⟩;by_cases C:i<k
  .grind [List.getElem?_append_left]
  .have p:i=k:=by
    grind[Ad]
   subst p;rw[List.getElem?_append_right o_]at d b;rw[z,Mp]at d;rw[s,Mp]at b;simp at d b;subst d b;exact⟨by rw[<-has.1,g],c,has,f,h⟩
theorem sQ(T:Bulk H N G):∀(n:Nat) (t:TypeId),fX P n t=true->∀(y:Nat) (cs:List Value) (x:DataW H×List MemPlace),DataW.trod enc P w base spare held y t cs=some x->G x.1->∃vas,dD w cs vas/\TyN P N n t vas:=by
 intro n;induction n with
 | zero=>intro t h;cases h
 | succ n ih=>
  intro t h y cs x d D;unfold fX at h;unfold TyN;split at h
  .rename_i g
   try rw[g]
   obtain⟨b,rfl,_⟩:=DataW.trod_bool g d;exact⟨[.bool b],dD.single (.bool b),b,rfl⟩
  .rename_i k g
   try rw[g]
   obtain⟨m,rfl,_,L⟩:=DataW.trod_int g d;simp only[Lit.wf,Af,bo]at L;exact⟨[.int k m],dD.single (.int k m (tC L)),m,rfl,tC L⟩
  .rename_i g
   try rw[g]
   obtain⟨s,rfl,p,hs⟩:=DataW.trod_string g d;obtain⟨⟨l⟩⟩:=s;have W:=T.str _ (by rw[p]at D;exact D);exact⟨[.str l],dD.single (.str l (by have:=fR;have z:l.length<=maxLen:=hs;omega)),l,rfl,W⟩
  .rename_i fs g
   try rw[g]
   obtain⟨xs,m,rfl,p,B,Z,S⟩:=DataW.trod_struct g d;have u:=T.agg _ (by rw[p]at D;exact D);rw[<-B]at h
   have:=sR (λt R cs x d Q=>ih t R m cs x d Q) cs fs.toList 0 (λf hf'=>by
    grind[Ck,Array.getElem?_eq_some_iff,Ab,Cf,Aq]) h
   simpa using this
  .rename_i m e g
   try rw[g]
   simp only[Af]at h;obtain⟨h1,z⟩:=h;obtain⟨xs,q,rfl,p,B,Z,S⟩:=DataW.trod_array g d;have u:=T.agg _ (by rw[p]at D;exact D);have hc:=aG z;obtain⟨Ls,l1,l2,U⟩:=vO h1 (λt R cs x d Q=>ih t R q cs x d Q) cs m o_ (λi M=>⟨xs[i]' o_,(S i M).trans (Ab o_),u _ (Cf (Aq _))⟩)
   grind[Bl]
  .rename_i e g
   try rw[g]
   simp only[Af]at h;obtain⟨h1,z⟩:=h;have C:0<P.cellsOf e:=by simpa[Nat.blt_eq]using z
   rcases DataW.trod_slice g d with⟨rfl,_⟩|⟨a,len,cap,K,rest,q,rfl,rfl,p,hb,Y,hcm,hel,S,_⟩
   .exact ⟨[.slice (P.cellsOf e) [] .no],dD.single (.nilslice _),[],rfl,Bq _,λx d=>by simp at d⟩
   .have u:=T.sl _ _ (by rw[p]at D;exact D);obtain⟨xs,us,l1,l2,U⟩:=vP h1 (λt R cs x d Q=>ih t R q cs x d Q) a len (λi M=>⟨K[i]' o_,(S i M).trans (Ab o_),u.2 _ (Cf (Aq _))⟩);have hty:∀x∈xs,TyN P N n e x.cells/\(aP P e=true->∃l,x= .agg l)/\(aP P e=false->x.cells=[x]):=λx d=>by
     obtain⟨i,M⟩:=Ck d;have hlt:=(Ad.1 M).1;exact(U i x (us[i]' o_) M (Ab o_)).2.2.2
    by_cases h0:len=0
    .subst h0;have:xs=[]:=List.eq_nil_of_length_eq_zero l1;subst this;exact⟨[.slice (P.cellsOf e) [] .no],dD.single (.emptys _ a cap),[],rfl,Bq _,λx d=>by simp at d⟩
    .obtain ⟨b,o,sp⟩:=a;have hx0:xs[0]? =some (xs[0]' o_):=Ab o_;have X:us[0]? =some (us[0]' o_):=Ab o_;obtain⟨c1,c2,c3,_⟩:=U 0 _ _ hx0 X;have r:=c2 0 C;have I:0<(us[0]' o_).length:=by rw[c3.1,c1];exact C
     rw[Ab I]at r;have hsp:sp=none:=by
      have:=World.cell?_spot r;simpa[Addr.add]using this
     subst hsp;have key:∀(i j:Nat) x c,xs[i]? =some x->x.cells[j]? =some c->∃v,(us.getD i []).getD j undef=v/\w.cell? ⟨b,o+i*P.cellsOf e+j,none⟩=some v/\RepW w v c:=by
      intro i j x c d A;have hlt:=(Ad.1 d).1;have O:us[i]? =some (us[i]' o_):=Ab o_;obtain⟨d1,d2,d3,_⟩:=U i x _ d O;have V:=(Ad.1 A).1;have J:j<(us[i]' o_).length:=by rw[d3.1];exact V
      have F:=d2 j o_;rw[Ab J]at F;refine⟨_,rfl,?_,?_⟩
      .grind [bK]
      .rw [Fk,Fk,O];simp only[Option.getD_some,Ab J];exact d3.2 j _ c (Ab J) A
     refine⟨[.slice (P.cellsOf e) xs .no],dD.single (.slice (P.cellsOf e) b o len cap xs (λi j=>(us.getD i []).getD j undef) l1 Y (by have:=fR;omega) (λx d=>?_) (λi j x c d A=>?_) (λi j x c d A=>?_) (λi j x c d A=>?_)),xs,rfl,by have h9:=u.1;simp only[Bw]at h9;omega,hty⟩
     .grind [Ck,Ad,Ab]
     .obtain ⟨v,rfl,h1,_⟩:=key i j x c d A;exact h1
     .obtain ⟨v,rfl,_,z⟩:=key i j x c d A;exact z.one
     .obtain ⟨v,rfl,_,z⟩:=key i j x c d A;exact z
  .cases h
theorem zV(j:Bulk H N G){r:Reach}{b0:Nat}{n:Nat}{t e:TypeId}{v:Value}{d:DataW H}{ps:List MemPlace}(g:P.underlying t=some (.slice e))(f:fX P (n+1) t=true)(k:Dw P w r b0 t v)(h:DataW.Trod enc P w base spare held t v d ps)(p:G d):
  ∃xs,Rep (Mw w) [] v (.slice (P.cellsOf e) xs .no)/\xs.length<=N/\∀x∈xs,TyN P N n e x.cells/\(aP P e=true->∃l,x= .agg l)/\(aP P e=false->x.cells=[x]):=by
 obtain⟨a,m,c,rfl⟩:=CW g (vQ (by unfold aP;rw[g]) k);obtain⟨b,h⟩:=h;obtain⟨vas,h1,i⟩:=sQ j (n+1) t f b _ _ h p;unfold TyN at i;rw[g]at i;obtain⟨xs,rfl,hl,o⟩:=i;exact⟨xs,(h1.2 0 _ _ rfl rfl).rep,hl,o⟩
theorem aJY(j:Bulk H N G){r:Reach}{b0:Nat}{n:Nat}{t:TypeId}{v:Value}{d:DataW H}{ps:List MemPlace}
  (f:aP P t=true) (c:fX P n t=true) (g:Dw P w r b0 t v) (h:DataW.Trod enc P w base spare held t v d ps) (m:G d):∃vas,Rep (Mw w) [] v (.agg vas)/\TyN P N n t vas:=by
 obtain⟨cs,rfl⟩:=YW f g;obtain⟨b,h⟩:=h;obtain⟨vas,h1,l⟩:=sQ j n t c b _ _ h m;have e:(Value.agg cs).cells.toList=cs.toList:=rfl;rw[e]at h1;refine⟨vas,?_,l⟩;have:=Rep.agg (M:=Mw w) (ob:=[]) cs.toList vas h1.1 (λi v a g k=>(h1.2 i v a g k).rep);omega
end
end Go.AW
namespace Go.Proofs.YtenkdioaefckoaaGreatDoor
open Go.Proofs.Tryz
open Go Go.AW Go.Proofs
abbrev cmv(l:List Cmd):List aa:=l.map Cmd.av
open Go.ChangeShapes Go.WideShapes Go.ChangeAt Go.RowKit
set_option maxRecDepth 100000
theorem JW{H:Type}(d:DataW H):1<=Rows.uptoBulk d:=by
 cases d with
 | lit l=>cases l<;>simp[Rows.uptoBulk]
 | _=>simp[Rows.uptoBulk]
theorem lI{H:Type}{d:DataW H}:∀{l:List (DataW H)},d∈l->Rows.uptoBulk d<=Rows.uptoBulkAll l
 | [],h=>by cases h
 | x::r,h=>by
  simp only[Rows.uptoBulkAll];rcases Az.1 h with rfl|h
  .omega
  .have:=lI h;omega
theorem wD{H:Type}:∀(l:List (DataW H)),l.length<=Rows.uptoBulkAll l
 | []=>by simp
 | x::r=>by
  have:=JW x;have:=wD r;simp only[Rows.uptoBulkAll,Al];omega
theorem aCI(H:Type)(N:Nat):Bulk H N (λd=>Rows.uptoBulk d<=N) where
 str l h:=by
  simp only[Rows.uptoBulk]at h;omega
 sl e r h:=by
  simp only[Rows.uptoBulk]at h;have:=wD e;exact⟨by omega,λd hd=>by have:=lI hd;omega⟩
 agg l h:=by
  simp only[Rows.uptoBulk]at h;exact λd hd=>by have:=lI hd;omega
section
variable {N:Nat}
theorem XD{n:Nat}{cs:List aa}(h:TyN Tryz.prog N (n+1) 3 cs):∃m:Int,cs=[ii m]/\ -9223372036854775808<=m/\m<=9223372036854775807:=by
 unfold TyN at h;rw[underlying3]at h;obtain⟨m,h,h1,a⟩:=h;simp only[bS,aX]at h1 a;exact⟨m,h,by omega,by omega⟩
theorem dH{n:Nat}{cs:List aa}(h:TyN Tryz.prog N (n+1) 3 cs):∃m:Int,cs=[ii m]:=by
 unfold TyN at h;rw[underlying3]at h;obtain⟨m,h,_⟩:=h;exact⟨m,h⟩
theorem uQ{n:Nat}{cs:List aa}(h:TyN Tryz.prog N (n+2) 43 cs):∃v:V3,cs=v.cs:=by
 unfold TyN at h;rw[underlying43]at h;obtain⟨xs,hl,d,rfl⟩:=h
 match xs,hl,d with
 | [x,y,z],_,d=>
  obtain⟨a,rfl⟩:=dH (d x s_);obtain⟨b,rfl⟩:=dH (d y s_);obtain⟨c,rfl⟩:=dH (d z s_);exact⟨⟨a,b,c⟩,rfl⟩
theorem XF{n:Nat}{cs:List aa}(h:TyN Tryz.prog N (n+3) 45 cs):∃g:Gan,cs=g.cs:=by
 unfold TyN at h;rw[underlying45]at h;obtain⟨p,r,rfl,e,u,r,rfl,h1,o,r,rfl,j,s,r,rfl,h3,x,r,rfl,i,q,r,rfl,k,w,r,rfl,l,rfl⟩:=h;obtain⟨f,rfl⟩:=dH e;obtain⟨a,rfl⟩:=dH h1;obtain⟨b,rfl⟩:=dH j;obtain⟨v,rfl⟩:=uQ h3;obtain⟨c,rfl⟩:=dH i;obtain⟨m,rfl⟩:=dH k;obtain⟨d,rfl⟩:=dH l;exact⟨⟨f,a,b,v,c,m,d⟩,rfl⟩
theorem B9{α:Type}{av:α->aa}{P:aa->Prop}{Q:α->Prop}(b:∀x,P x->∃p:α,x=av p/\Q p):∀(xs:List aa),(∀x∈xs,P x)->∃l:List α,xs=l.map av/\∀p∈l,Q p
 | [],_=>⟨[],rfl,λp h=>by cases h⟩
 | x::xs,h=>by
  obtain⟨p,rfl,hp⟩:=b x (h x s_);obtain⟨l,rfl,hl⟩:=B9 b xs λx c=>h x (by simp[c])
  exact⟨p::l,rfl,λq a=>by
   rcases Az.1 a with rfl|a
   .exact hp
   .exact hl q a⟩
end
section
variable {N:Nat}
theorem XC{n:Nat}{cs:List aa}(h:TyN Tryz.prog N (n+3) 130 cs):∃x:Nod,cs=x.cs:=by
 unfold TyN at h;rw[underlying130]at h;obtain⟨g,r,rfl,c,j,r,rfl,h1,f,r,rfl,e,i,r,rfl,h3,k,r,rfl,d,rfl⟩:=h;obtain⟨b,rfl⟩:=dH c;obtain⟨a,rfl⟩:=dH h1;obtain⟨u,rfl⟩:=uQ e;obtain⟨v,rfl⟩:=uQ h3;obtain⟨w,rfl⟩:=uQ d;exact⟨⟨b,a,u,v,w⟩,rfl⟩
theorem XE{n:Nat}{cs:List aa}(h:TyN Tryz.prog N (n+3) 132 cs):∃x:Hos,cs=x.cs:=by
 unfold TyN at h;rw[underlying132]at h;obtain⟨g,r,rfl,e,i,r,rfl,h1,f,r,rfl,d,j,r,rfl,h3,rfl⟩:=h;obtain⟨a,rfl⟩:=dH e;obtain⟨b,rfl⟩:=dH h1;obtain⟨c,rfl⟩:=dH d;obtain⟨v,rfl⟩:=uQ h3;exact⟨⟨a,b,c,v⟩,rfl⟩
theorem OL{n:Nat}{cs:List aa}(h:TyN Tryz.prog N (n+4) 27 cs):∃l:List Nod,cs=[.slice 11 (nav l) .no]/\l.length<=N:=by
 unfold TyN at h;rw[underlying27]at h;obtain⟨xs,rfl,b,a⟩:=h;have c:Tryz.prog.cellsOf 130=11:=by kernel_rfl
 obtain⟨l,rfl,hl⟩:=B9 (av:=Nod.av) (Q:=λx=>True) (P:=λx=>x∈xs) (λx hm=>by
  obtain⟨cs,rfl⟩:=(a x hm).2.1 (by kernel_rfl);obtain⟨p,hp⟩:=XC (n:=n) (a _ hm).1
  exact⟨p,by unfold Nod.av;rw[<-hp];rfl,trivial⟩) xs λx hm=>hm
 exact⟨l,by rw[c],by simpa using b⟩
theorem OM{n:Nat}{cs:List aa}(h:TyN Tryz.prog N (n+4) 28 cs):∃l:List Hos,cs=[.slice 6 (hav l) .no]/\l.length<=N:=by
 unfold TyN at h;rw[underlying28]at h;obtain⟨xs,rfl,b,a⟩:=h;have c:Tryz.prog.cellsOf 132=6:=by kernel_rfl
 obtain⟨l,rfl,hl⟩:=B9 (av:=Hos.av) (Q:=λx=>True) (P:=λx=>x∈xs) (λx hm=>by
  obtain⟨cs,rfl⟩:=(a x hm).2.1 (by kernel_rfl);obtain⟨p,hp⟩:=XE (n:=n) (a _ hm).1
  exact⟨p,by unfold Hos.av;rw[<-hp];rfl,trivial⟩) xs λx hm=>hm
 exact⟨l,by rw[c],by simpa using b⟩
theorem aFx{n:Nat}{cs:List aa}(h:TyN Tryz.prog 1048576 (n+5) 30 cs):∃c:Con,cs=c.cs/\c.sm:=by
 unfold TyN at h;rw[underlying30]at h;obtain⟨j,r,rfl,b,l,r,rfl,h1,i,r,rfl,e,k,r,rfl,h3,rfl⟩:=h;obtain⟨ns,rfl,f⟩:=OL (n:=n) b;obtain⟨hs,rfl,d⟩:=OM (n:=n) h1;obtain⟨a,rfl⟩:=dH e;obtain⟨g,rfl⟩:=dH h3;exact⟨⟨ns,hs,a,g⟩,rfl,⟨f,d⟩⟩
end
theorem aAS{n:Nat}{cs:List aa}(h:TyN Tryz.prog 1048576 (n+6) 47 cs):∃x:Cmd,cs=x.cs/\CmSm x:=by
 unfold TyN at h;rw[underlying47]at h;obtain⟨f,r,rfl,a,j,r,rfl,h1,e,r,rfl,b,i,r,rfl,h3,rfl⟩:=h;obtain⟨k,rfl⟩:=dH a;obtain⟨c,rfl,d⟩:=aFx (n:=n) h1;obtain⟨g,rfl⟩:=XF (n:=n+2) b;obtain⟨m,rfl,hm⟩:=XD h3;exact⟨⟨k,c,g,m⟩,rfl,d,hm⟩
section
variable {H:Type} {enc:TypeId×Value->H} {W:World} {r:Reach} {base b0:Nat} {spare:Nat->Bool} {held:Bool} {v:Value} {d:DataW H} {ps:List MemPlace}
theorem HX(a:Dw Tryz.prog W r b0 3 v):∃n:Int,Rep (Mw W) [] v (ii n):=by
 obtain⟨m,rfl,h⟩:=PQ (k:=.i64) (by kernel_rfl) (vQ (by kernel_rfl) a);exact⟨m,.int _ m h⟩
theorem aHz(e:Dw Tryz.prog W r b0 47 v)(h:DataW.Trod enc Tryz.prog W base spare held 47 v d ps)(g:Rows.uptoBulk d<=1048576):∃x:Cmd,Rep (Mw W) [] v x.av/\CmSm x:=by
 obtain⟨b,a,c⟩:=aJY (n:=6) (aCI H 1048576) (by kernel_rfl) (by kernel_rfl) e h g;obtain⟨x,rfl,f⟩:=aAS (n:=0) c;exact⟨x,a,f⟩
theorem CV(f:Dw Tryz.prog W r b0 54 v)(h:DataW.Trod enc Tryz.prog W base spare held 54 v d ps)(i:Rows.uptoBulk d<=1048576):∃l:List Cmd,Rep (Mw W) [] v (.slice 15 (cmv l) .no)/\l.length<=1048576/\∀x∈l,CmSm x:=by
 obtain⟨xs,a,c,b⟩:=zV (n:=6) (aCI H 1048576) underlying54 (by kernel_rfl) f h i;have g:Tryz.prog.cellsOf 47=15:=by kernel_rfl
 obtain⟨l,rfl,hl⟩:=B9 (av:=Cmd.av) (Q:=CmSm) (P:=λx=>x∈xs) (λx hm=>by
  obtain⟨cs,rfl⟩:=(b x hm).2.1 (by kernel_rfl);obtain⟨p,hp,e⟩:=aAS (n:=0) (b _ hm).1
  exact⟨p,by unfold Cmd.av;rw[<-hp];rfl,e⟩) xs λx hm=>hm
 rw[g]at a;exact⟨l,a,by simpa using c,hl⟩
end
theorem vF(s:List UInt8)(k:Nat)(h:s.length<=16384)(c:k<s.length+8):gU ((frm s).take k)≠0:=by
 have hl:((frm s).take k).length=k:=by rw[Cs,cU];omega
 unfold gU;rw[hl];by_cases a:k<8
 .rw [bu a];decide
 .rw [bt a];have b:eS ((frm s).take k)=s.length:=by
   have:(frm s).take k=iU s.length++((iU (yB s).toNat++s).take (k-4)):=by
    unfold frm;rw[List.append_assoc,List.take_append,Bl (by simp[iU];omega)];rfl
   rw[this,nN _ _ o_]
  rw[b,bt o_,bu o_];decide
theorem oT(n:Int)(s x:List UInt8)(keep:Int)(hs:s.length<=1048576)(k:x.length<=1048576)(c:x.take (bZ keep x.length)=[]):
  ar 26 [.ref 0 0,ii keep] (dkO false n s (wtB x) false) (.ret (.tup [])) (dkO false n s aR false):=by
 have b:(x.map ub).length=x.length:=by simp
 have i:(s.map ub).length=s.length:=by simp
 obtain⟨e,d⟩:=zD keep x.length;rw[<-b]at e d;have a:(x.map ub).take (bZ keep (x.map ub).length)=[]:=by rw[b,<-List.map_take,c];rfl
 have j:((x.map ub).take (bZ keep (x.map ub).length)).length=0:=by rw[a];rfl
 refine cT (E:=(Ex [34] [34] [])) (fn:=f26) (g:=.full 1 _ _) λ_=>?_
 repeat' first|(refine gN (hEx [34] [34] []) ?_;conv=>whnf)|refine⟨_,e,?_⟩|refine Aa a ?_|refine Aa (kA o_ d_) ?_|refine zM ?_|exact rfl|(refine zt ?_;try intro h)|refine zu (λh=>?_) λh=>?_|fail
 exact zx [0]
theorem oU(n:Int)(s:List UInt8)(keep:Int)(hs:s.length<=1048576):
  ar 26 [.ref 0 0,ii keep] (dkO true n s aR false) (.ret (.tup [])) (dkC n (sgV true 1 s) aR false::sgT true):=by
 have b:(s.map ub).length=s.length:=by simp
 have c:min (max keep 0) ((([]:List aa).length:Nat):Int)=((0:Nat):Int):=by show min (max keep 0) 0=0;omega
 have key:∀y,s.map ub++[]=y->ar 26 [.ref 0 0,ii keep] (dkO true n s aR false) (.ret (.tup [])) (dkC n (.slice 1 y (.own 1 1)) aR false::sgT true):=by
  intro y a;subst a;refine cT (E:=E) (fn:=f26) (g:=.full 2 _ _) λ_=>?_;exact zW
 exact key _ (Ao _)
theorem oV(n:Int)(s:List UInt8)(keep:Int)(hs:s.length<=1048576):
  ar 26 [.ref 0 0,ii keep] (dkO false n s aR false) (.ret (.tup [])) (dkO false n s aR false):=by
 have a:(s.map ub).length=s.length:=by simp
 have b:min (max keep 0) ((([]:List aa).length:Nat):Int)=((0:Nat):Int):=by show min (max keep 0) 0=0;omega
 refine cT (E:=(Ex [34] [34] [])) (fn:=f26) (g:=.full 1 _ _) λ_=>?_
 repeat' first|(refine gN (hEx [34] [34] []) ?_;conv=>whnf)|refine⟨_,b,?_⟩|refine Aa rfl ?_|refine Aa (kA o_ d_) ?_|refine zM ?_|exact rfl|(refine zt ?_;try intro h)|refine zu (λh=>?_) λh=>?_|fail
 exact zx [0]
theorem P7(f:Bool)(m n:Int)(s:List UInt8):ar 88 [.ref 0 0] (jdO m f n s) (.ret (ii m)) (jdO m f n s):=by
 cases f
 .refine cT (E:=E) (fn:=f88) (g:=.full 2 _ _) λ_=>?_;exact zW
 .refine cT (E:=E) (fn:=f88) (g:=.full 3 _ _) λ_=>?_;exact zW
theorem oF(f:Bool)(n:Int)(l:List (List UInt8))(r:List UInt8)(e:gU r≠0)(a:r≠[])(hl:∀t∈l,t.length<=16384)(hm:(cB l++r).length<=1000000)(d:((cB l).length:Int)<=n):
  ar 56 [.ref 0 0] (dkO f n (cB l++r) aR false) (.ret (.tup [.ref (jdN f) 0,.slice 1 (kN l) .no])) (dkC n (sfV false 1 (cB l)) aR false::sfT f++[jnO 0 l.length]):=by
 have h1:=lG f n (cB l++r) o_;have k:=FF l r e hl hm;have h3:=oH l;have m:((cB l++r).length:Int)=(cB l).length+r.length:=by rw[Ah];omega
 have o:0<r.length:=List.length_pos_iff.2 a;have b:(cB l++r).take (cB l).length=cB l:=List.take_left ..;have c:=FJ f n (cB l++r) ((cB l++r).take (cB l).length) (by rw[b];exact d);have i:=wN f n (cB l++r) ((cB l++r).take (cB l).length);rw[<-h3]at k;generalize cB l=s at *
 generalize s++r=sr at *
 have j:(kN l).length=l.length:=by simp
 rw[<-j]
 suffices key:∀y,sr.take s.length=y->ar 56 [.ref 0 0] (dkO f n sr aR false) (.ret (.tup [.ref (jdN f) 0,.slice 1 (kN l) .no])) (dkC n (sfV false 1 y) aR false::sfT f++[jnO 0 (kN l).length])from key _ b
 intro y h;subst h;cases f
 .refine cT (E:=E) (fn:=f56) (g:=.full 1 _ _) λ_=>?_;exact zW
 .refine cT (E:=E) (fn:=f56) (g:=.full 2 _ _) λ_=>?_;exact zW
theorem OQ(s:Sta)(m:Int)(f:Bool)(n:Int)(x:List UInt8):ar 55 [.ref 0 0] (stS s m f n x) (.ret (ii m)) (stS s m f n x):=by
 have h1:=P7 f m n x;cases f
 all_goals
  refine cT (E:=E) (fn:=f55) (g:=.full _ _ _) λ_=>?_
  repeat' first|(refine gN hE ?_;conv=>whnf)|refine .eff [] [1,2] _ _ rfl h1 ?_|refine .eff [] [1,2,3] _ _ rfl h1 ?_|exact zx [0,1,2]|exact zx [0,1,2,3]|exact rfl|(refine zt ?_;try intro h)|refine zu (λh=>?_) λh=>?_|fail
def bG(n:Int):Sta:={mA with now:=n}
theorem aFF:aC mA (cI 1)=(bG 1,[],0):=by decide+kernel
theorem aFE:aC (bG 1) (cI 2)=(bG 3,[],0):=by decide+kernel
theorem KB.sopT{t:Kst}{k:Nat}(h:KB t k)(f:Bool)(g:List UInt8)(r:List UInt8)(a:r.length<=16384)(j:Nat)(i:j≠0)(m:j<r.length+8):ar 19 [.ref 0 0] (dkO f t.d.size (t.d.safe++(frm r).take j) aR false++[bH g]) (.ret (.tup [.ref (jdN f+2) 0,ii 0])) (dkC t.d.size (sfV false 1 t.d.safe) aR false::sfT f++[bH g,jnO 0 t.n,.cells tSt (.ref (jdN f+1) 0::t.s.cs)]):=by
 have o:=h.lens;obtain⟨l,h1,p⟩:=h.ex;have e:((frm r).take j).length=j:=by rw[Cs,cU];omega
 have h3:=oF f t.d.size (l.map Rec.b) ((frm r).take j) (vF r j a m) (λc=>i (by rw[<-e,c];rfl)) (xA h1.ok) (by rw[<-h1.safe,Ah];omega) (by rw[<-h1.safe];omega);rw[<-h1.safe,Bw,<-h1.n]at h3;exact AX f false (λh=>by cases h) g _ _ _ t.s _ t.n h3 (KB.rpl (k:=k) h1 (by have:=h.few;omega))
theorem Q7{t:Kst}{k:Nat}(h:KB t k)(hz:t.d.size=1048576)(c:Cmd):eV t.d (crB c)=0:=by
 have:=h.lens;have:=aEv c;have e:(crB c).length=(C8.encB c).length+1:=Al;unfold eV;rw[bt o_,bt o_]
theorem KB.sd1{t:Kst}{k:Nat}(h:KB t k)(f:Bool)(c:Cmd)(a:c.k=1->c.c.sm){d:Dk}{i:Int}{S:Sta}{ev:List Ev}(e:doS t c=(⟨d,i,S⟩,ev,0)):
  ar 22 [.ref 0 0,c.av] (stS t.s t.n f t.d.size t.d.safe) (.ret (.tup [.slice 3 (evv ev) .no,ii 0])) (stG S i f d.size d.safe):=by
 by_cases q:(aC t.s c).2.2=0
 .by_cases b:eV t.d (crB c)=0
  .have h1:=(h.do_ok c a f q b).1;rw[lD q b]at e;simp only[Prod.mk.injEq,Kst.mk.injEq]at e;obtain⟨⟨rfl,rfl,rfl⟩,rfl,_⟩:=e;exact h1
  .have:=(h.do_e c a f (.inr b)).2.2.2.2.2;rw[e]at this;exact bv rfl this
 .have:=(h.do_e c a f (.inl q)).2.2.2.2.2;rw[e]at this;exact bv rfl this
theorem CG(n:Int):ar 54 [ii n] [] (.ret (cI n).av) []:=by
 exact c_ f54 λ_=>zW
theorem XH:(aC (bG 3) (cI 0)).2.2=1:=by decide+kernel
theorem w26:∃a d f g,aK (jP 1000) (tk 1 1 0)=(⟨a,d,bG 1⟩,[],0)/\aK ⟨a,d,bG 1⟩ (tk 1 2 0)=(⟨f,g,bG 3⟩,[],0)/\gD ⟨f,g,bG 3⟩=0:=by
 obtain⟨a,d,i,h,w⟩:=pM (t:=jP 1000) (c:=cI 1) 0 2 900 aFF d_ d_ d_ (by show((0:Nat):Int)+_<=_;decide);obtain⟨f,g,j,k,y⟩:=pM (t:=⟨a,d,bG 1⟩) (c:=cI 2) 0 2 800 aFE d_ d_ d_ (by unfold yE at *;dsimp only at *;omega);refine⟨a,d,f,g,i,j,?_⟩;have hz:f.size=1000:=by subst k;show a.size=_;subst h;rfl
 have A:(cG (bG 3)).length<=900:=by
  have v:(kG (bG 3)).length<=50:=by
   have:=C8.pl_len (l:=(bG 3).cmd.il) d_;have x:(bG 3).cmd.il.length<=5:=by decide
   unfold kG C8.encB;split
   .omega
   .simp
  have u:(C8.putN (kG (bG 3)).length).length<=10:=by
   have:=C8.pn_len (n:=((kG (bG 3)).length:Int)) o_;rw[Int.toNat_natCast]at this;omega
  have o:=C8.pl_len (l:=[(bG 3).now,(bG 3).nxt,((bG 3).hist.length:Int)]) d_;have q:=C8.pl_len (l:=[((bG 3).pend.length:Int)]) d_;have z:=C8.pl_len (l:=[((bG 3).run.length:Int)]) d_;unfold cG;simp only[Ah,Al,Bj]at *
  have p:(zH (bG 3).hist).length=0:=rfl;have m:(uC (bG 3).pend).length=0:=rfl;have r:(qE (bG 3).run).length=0:=rfl;omega
 have e:(Rec.b (.s (bG 3)))=83::cG (bG 3):=rfl;unfold gD;dsimp only;rw[e,hz,bt (by simp only[Al];omega),bt (by simp only[Al];omega)]
theorem KB.sst{t:Kst}{k:Nat}(h:KB t k)(f:Bool):ar 20 [.ref 0 0] (stS t.s t.n f t.d.size t.d.safe) (.ret t.s.av) (stS t.s t.n f t.d.size t.d.safe):=by
 have h1:=wO t.s _ (h.sap Cmd.zero (λe=>by cases e)) t.n f t.d.size t.d.safe;rw[(B3 t.s).1]at h1;exact h1
set_option maxHeartbeats 2000000 in
theorem pF(g:List UInt8):ar 17 [] [bH g] (.ret (.bool true)) [bH g]:=by
 obtain⟨b,e,a,n,i,m,o⟩:=w26;have l:=kb0 1000;have k:=l.step d_ (tk 1 1 0) (λh=>by cases h);rw[i]at k;have j:=k.step d_ (tk 1 2 0) (λh=>by cases h);rw[show aK (⟨b,e,bG 1⟩,([]:List Ev),(0:Int)).1 (tk 1 2 0)=_ from m]at j;have c:=j.step d_ ⟨2,Cmd.zero,0⟩ (λh=>by cases h);have r:b.size=(jP 1000).d.size:=by have:=kD (jP 1000) (cI 1);rw[show doS (jP 1000) (cI 1)=(⟨b,e,bG 1⟩,[],0)from i]at this;exact this
 have q:a.size=b.size:=by have:=kD ⟨b,e,bG 1⟩ (cI 2);rw[show doS ⟨b,e,bG 1⟩ (cI 2)=(⟨a,n,bG 3⟩,[],0)from m]at this;exact this
 rw[show(aK (⟨a,n,bG 3⟩,([]:List Ev),(0:Int)).1 ⟨2,Cmd.zero,0⟩).1=jG ⟨a,n,bG 3⟩from rfl,AY o]at c;have z:=nL 1000;have h1:=l.sop false g;have u:=l.sd1 false (cI 1) (λh=>by cases h) i;have h3:=k.sd1 true (cI 2) (λh=>by cases h) m;have t:=j.snap_ok true o;have v:=OQ (bG 3) 1 false a.size (frm (83::cG (bG 3)));have w:=c.sop false g;obtain⟨p,_,_,_,_,_⟩:=c.do_e (cI 0) (λh=>by cases h) false (.inl (by show(aC (bG 3) (cI 0)).2.2≠0;rw[XH];decide));have y:(doS ⟨⟨a.size,frm (83::cG (bG 3)),[],false⟩,1,bG 3⟩ (cI 0)).2.2=1:=by
  unfold doS;rw[bu (show(aC (bG 3) (cI 0)).2.2≠0 by rw[XH];decide)];exact XH
 rw[show ∀x:Kst×List Ev×Int,x.2.2=1->ii x.2.2=ii 1 from λx h=>by rw[h]]at p<;>try exact y
 have s:=c.sst false;have B:=CG;dsimp only at *
 simp only[q,r]at u h3 t v w p s;clear l k j c i m o y r q;generalize frm (83::cG (bG 3))=X at *
 generalize b.safe=x1 at *
 generalize a.safe=x2 at *
 refine cT (E:=E) (fn:=f17) (g:=.full 1 _ _) λ_=>?_
 repeat' first
  | (refine To.partC [1,2,5,7] [0,1,2,3,4] rfl rfl rfl (?_:To E f17 _ (.code (eO f17 6) _ _));refine goN hE 1 rfl ?_;conv=>whnf)
  | (refine goN hE 1 rfl ?_;conv=>whnf)
  | refine .pure _ _ z ?_
  | refine .pure _ [] (B _) ?_
  | refine .eff [] [1,0] _ _ rfl h1 ?_
  | refine .eff [] [3,2,1] _ _ rfl u ?_
  | refine .eff [] [3,2,1,4] _ _ rfl h3 ?_
  | refine .eff [] [3,2,1,4] _ _ rfl t ?_
  | refine .eff [] [3,2,1] _ _ rfl v ?_
  | refine .eff [] [1,0] _ _ rfl w ?_
  | refine .eff [] [3,2,1] _ _ rfl p ?_
  | refine .eff [] [6,5,1] _ _ rfl s ?_
  | exact rfl
  | refine zt ?_
  | exact zx [0]
theorem G7(L:List Cmd)(i:Nat)(n:Int)(h:L.length<=i\/500<=n)(b:i<=1048576):To E f16 (.pure (.ret (.bool (decide (n<500))))) (.head (stk f16 0) [(0,.slice 15 (cmv L) .no),(3,ii n),(4,ii i)] []):=by
 have a:(cmv L).length=L.length:=by simp
 by_cases c:n<500
 .refine gV ?_
  repeat' first|(refine gN hE ?_;conv=>whnf)|exact rfl|(refine zt ?_;try intro h)|refine zu (λh=>?_) λh=>?_|fail
 .by_cases b:L.length<=i
  .refine gV ?_
   repeat' first|(refine gN hE ?_;conv=>whnf)|exact rfl|(refine zt ?_;try intro h)|refine zu (λh=>?_) λh=>?_|fail
  .refine gV ?_
   repeat' first|(refine gN hE ?_;conv=>whnf)|exact rfl|(refine zt ?_;try intro h)|refine zu (λh=>?_) λh=>?_|fail
theorem O1(L:List Cmd)(q:L.length<=1048576)(l:∀p∈L,p.c.sm)(R:Int):∀(m i:Nat) (n:Int),i+m=L.length->0<=n->n<=3000000->smR 500 ((L.drop i).map Cmd.c) n=R->
  To E f16 (.pure (.ret (.bool (decide (R<500))))) (.head (stk f16 0) [(0,.slice 15 (cmv L) .no),(3,ii n),(4,ii i)] []):=by
 have f:(cmv L).length=L.length:=by simp
 intro m;induction m with
 | zero=>
  intro i n g _ _ a;rw[List.drop_eq_nil_of_le o_]at a;have a:n=R:=a;subst a;exact G7 L i n (.inl o_) o_
 | succ m d=>
  intro i n g r h1 a;have b:i<L.length:=o_;rw[List.drop_eq_getElem_cons b]at a;have get:(cmv L)[i]? =some L[i].av:=by simp[b]
  have hp:=l L[i] (Aq b);generalize L[i]=p at a get hp;rw[List.map_cons]at a;unfold smR at a;by_cases e:n<500
  .rw [bu e]at a;obtain⟨j,k⟩:=aAD hp;have next:=d (i+1) (n+wgt p.c) o_ o_ o_ a
   have u:(nav p.c.ns).length=p.c.ns.length:=by simp
   have o:(hav p.c.hs).length=p.c.hs.length:=by simp
   have t:=hp.ns;have s:=hp.hs;unfold wgt at next
   clear d a j k;refine gV ?_
   repeat' first|(refine gN hE ?_;conv=>whnf)|refine⟨i,rfl,?_⟩|refine⟨_,get,?_⟩|exact rfl|(refine zt ?_;try intro h)|refine zu (λh=>?_) λh=>?_|fail
   refine To.part [0,3,4] [] rfl rfl rfl ?_;exact next
  .rw [bt e]at a;subst a;exact G7 L i n (.inr o_) o_
theorem sI(L:List Cmd)(b:L.length<=1048576)(a:∀p∈L,p.c.sm):∃r:Bool,ar 16 [.slice 15 (cmv L) .no] [] (.ret (.bool r)) []:=by
 refine⟨decide (smR 500 (L.map Cmd.c) 0<500),?_⟩
 .have next:=O1 L b a _ L.length 0 0 o_ d_ d_ (by rw[List.drop_zero])
  generalize smR 500 (L.map Cmd.c) 0=R at *
  refine c_ f16 λ_=>?_
  repeat' first|(refine gN hE ?_;conv=>whnf)|exact rfl|(refine zt ?_;try intro h)|refine zu (λh=>?_) λh=>?_|fail
  refine To.part [0,3,4] [] rfl rfl rfl ?_;exact next
theorem RL(f:Bool)(n:Int)(s:List UInt8):ar 25 [.ref 0 0] (dkO f n s aR false) (.ret (ii ((([]:List aa).length:Nat)))) (dkO f n s aR false):=by
 cases f
 .refine cT (E:=E) (fn:=f25) (g:=.full 1 _ _) λ_=>?_;exact zW
 .refine cT (E:=E) (fn:=f25) (g:=.full 2 _ _) λ_=>?_;exact zW
abbrev opC(b f':Bool)(g:List UInt8)(n:Int)(x y:List UInt8)(S:Sta)(m:Int):Prop:=ar 19 [.ref 0 0] (dkO b n x aR false++[bH g]) (.ret (.tup [.ref (jdN b+2) 0,ii 0])) (dkC n (sfV f' 1 y) aR false::sfT b++[bH g,jnO 0 m,.cells tSt (.ref (jdN b+1) 0::S.cs)])
abbrev stC(f':Bool)(n:Int)(y:List UInt8)(S:Sta)(m:Int):Prop:=ar 20 [.ref 0 0] (stS S m f' n y) (.ret S.av) (stS S m f' n y)
theorem KB.torn{t:Kst}{k:Nat}(h:KB t k)(o:k<58)(hz:t.d.size=1048576)(c:Cmd)(u:c.k=1->c.c.sm)(q:(aC t.s c).2.2=0)(g:List UInt8)(keep:Int)(b:Bool)(a:b=false->(frm (crB c)).take (bZ keep (frm (crB c)).length)=[]):
  ∃(f:Bool) (y:List UInt8) (S:Sta) (m:Int),(f=true->b=true)/\opC b f g t.d.size (t.d.safe++(frm (crB c)).take (bZ keep (frm (crB c)).length)) y S m/\stC f t.d.size y S m/\S=(if((frm (crB c)).length:Int)<=keep then(aC t.s c).1 else t.s):=by
 have n:=Q7 h hz c;obtain⟨r,_⟩:=rZ n;have hl:=cU (crB c);have v:bZ keep (frm (crB c)).length=(min (max keep 0) ((frm (crB c)).length:Int)).toNat:=rfl;generalize bZ keep (frm (crB c)).length=j at *
 by_cases l:j=0
 .subst l;rw[List.take_zero,Ao,bt o_];exact⟨b,_,_,_,id,h.sop b g,h.sst b,rfl⟩
 have a:b=true:=by
  cases b
  .have:=congrArg List.length (a rfl);rw[Cs]at this;simp only[Bj]at this;omega
  .rfl
 subst a;by_cases p:j=(frm (crB c)).length
 .have i:=h.step o ⟨1,c,0⟩ u;have e:(aK t ⟨1,c,0⟩).1=(doS t c).1:=rfl;rw[e,lD q n]at i;rw[p,List.take_length,bu o_];exact⟨true,_,_,_,λ_=>rfl,i.sop true g,i.sst true,rfl⟩
 .rw [bt o_];exact⟨false,_,_,_,λh=>(by cases h),h.sopT true g (crB c) r j l o_,h.sst false,rfl⟩
noncomputable abbrev fTn:Func:=f5
abbrev tnO(b:Bool)(g:List UInt8)(n:Int)(x:List UInt8)(s nx:Sta):List ab:=match b with
 | true=>[bH g,dkC n (sfV true 4 x) aR false,.cells 35 s.cs,.cells 35 nx.cs,.tail 0 1 5]
 | false=>[bH g,dkC n (sfV false 4 x) aR false,.cells 35 s.cs,.cells 35 nx.cs]
abbrev tnE(keep w e:Int):List (Nat×aa):=[(2,ii keep),(7,.ref 1 0),(11,.ref 2 0),(12,.ref 3 0),(14,ii e),(15,ii w)]
abbrev tnP(f:Bool)(g:List UInt8)(c:Cmd)(t:Kst):List ab:=match f with
 | true=>[bH g,.cells 47 c.cs,dkC t.d.size (sfV true 5 t.d.safe) aR false,jnO 2 t.n,.cells tSt (.ref 3 0::t.s.cs),.tail 0 1 5]
 | false=>[bH g,.cells 47 c.cs,dkC t.d.size (sfV false 5 t.d.safe) aR false,jnO 2 t.n,.cells tSt (.ref 3 0::t.s.cs)]
theorem aFw(g:List UInt8)(n:Int)(x:List UInt8)(keep w e:Int)(s o:Sta)(b i:Bool)(y:List UInt8)(S:Sta)(m:Int)(d:i=true->b=true)(c:opC b i g n x y S m)(hs:stC i n y S m)(k:S=if e=0/\w<=keep then o else s)
  (hm:ar 15 [S.av,S.av] [] (.ret (.bool true)) []):
  To E fTn (.full 1 (.ret (.bool true)) [bH g]) (.code (eO fTn 16) (tnE keep w e) (tnO b g n x s o)):=by
 have l:=pF g;by_cases a:e=0/\w<=keep
 .rw [bu a]at k;obtain⟨a,p⟩:=a;subst k a;cases b<;>cases i
  case false.true=>exact bv (d rfl) d_
  all_goals
   clear d
   repeat' first|(refine gN hE ?_;conv=>whnf)|refine .eff [] [1,0] _ _ rfl c ?_|refine .eff [] [1,4,0] _ _ rfl c ?_|refine .look [5,4,1] _ _ rfl rfl hs (λ_=>rfl) (λ_=>rfl) ?_|refine .look [6,5,1] _ _ rfl rfl hs (λ_=>rfl) (λ_=>rfl) ?_|refine .look [6,5,1,4] _ _ rfl rfl hs (λ_=>rfl) (λ_=>rfl) ?_|refine .pure _ [] hm ?_|refine .look [0] _ _ rfl rfl l (λ_=>rfl) (λ_=>rfl) ?_|exact zx [0]|exact rfl|(refine zt ?_;try intro h)|refine zu (λh=>?_) λh=>?_|fail
 .rw [bt a]at k;subst k;by_cases j:e=0
  .subst j;have p:¬ w<=keep:=λh=>a ⟨rfl,h⟩;cases b<;>cases i
   case false.true=>exact bv (d rfl) d_
   all_goals
    clear d
    repeat' first|(refine gN hE ?_;conv=>whnf)|refine .eff [] [1,0] _ _ rfl c ?_|refine .eff [] [1,4,0] _ _ rfl c ?_|refine .look [5,4,1] _ _ rfl rfl hs (λ_=>rfl) (λ_=>rfl) ?_|refine .look [6,5,1] _ _ rfl rfl hs (λ_=>rfl) (λ_=>rfl) ?_|refine .look [6,5,1,4] _ _ rfl rfl hs (λ_=>rfl) (λ_=>rfl) ?_|refine .pure _ [] hm ?_|refine .look [0] _ _ rfl rfl l (λ_=>rfl) (λ_=>rfl) ?_|exact zx [0]|exact rfl|(refine zt ?_;try intro h)|refine zu (λh=>?_) λh=>?_|fail
  .have q:(e==0)=false:=by simpa using j
   cases b<;>cases i
   case false.true=>exact bv (d rfl) d_
   all_goals
    clear d a
    repeat' first|(refine gN hE ?_;conv=>whnf)|refine zF q ?_|refine .eff [] [1,0] _ _ rfl c ?_|refine .eff [] [1,4,0] _ _ rfl c ?_|refine .look [5,4,1] _ _ rfl rfl hs (λ_=>rfl) (λ_=>rfl) ?_|refine .look [6,5,1] _ _ rfl rfl hs (λ_=>rfl) (λ_=>rfl) ?_|refine .look [6,5,1,4] _ _ rfl rfl hs (λ_=>rfl) (λ_=>rfl) ?_|refine .pure _ [] hm ?_|refine .look [0] _ _ rfl rfl l (λ_=>rfl) (λ_=>rfl) ?_|exact zx [0]|exact rfl|(refine zt ?_;try intro h)|refine zu (λh=>?_) λh=>?_|fail
abbrev tnF(L:List Cmd)(keep:Int)(i:Nat):List (Nat×aa):=[(0,.slice 15 (cmv L) .no),(2,ii keep),(4,.ref 1 0),(7,.ref 2 0),(8,.ref 4 0),(10,ii i)]
set_option maxHeartbeats 2000000 in
theorem aFv(L:List Cmd)(c:Cmd)(u:CmSm c)(keep:Int)(i:Nat)(h:L.length<=i\/30<=i)(M:L.length<=1048576)(O:i<=1048576)(g:List UInt8)(t:Kst)(k:Nat)(e:KB t k)(v:k<58)(hz:t.d.size=1048576)(f:Bool):To E fTn (.full 1 (.ret (.bool true)) [bH g]) (.head (stk fTn 0) (tnF L keep i) (tnP f g c t)):=by
 have G:(cmv L).length=L.length:=by simp
 have hs:=e.sst f;have w:=e.lens;have r:=xT t.s c (e.okT.ok.st e.okT.lt) (λ_=>u.c) u.n;have sm:∀S:Sta,OkT S->ar 15 [S.av,S.av] [] (.ret (.bool true)) []:=λS h=>wR S S h.small.1 h.small.2 true (sK S);by_cases q:(aC t.s c).2.2=0
 .have C:=Q7 e hz c;have h1:=(e.do_ok c (λ_=>u.c) f q C).2;have j:=yP f t.d.size t.d.safe (frm (crB c)) false;obtain⟨N,P⟩:=rZ C;have fl:=cU (crB c);have p:OkT (aC t.s c).1:=by
   have:=(e.step v ⟨1,c,0⟩ (λ_=>u.c)).okT;rw[show(aK t ⟨1,c,0⟩).1=(doS t c).1 from rfl,lD q C]at this;exact this
  have fin:=λb w=>e.torn v hz c (λ_=>u.c) q g keep b w;rw[LK q]at r;have z:((frm (crB c)).map ub).length=(frm (crB c)).length:=by simp
  have fin:∀b:Bool,(b=false->(frm (crB c)).take (bZ keep (frm (crB c)).length)=[])->To E fTn (.full 1 (.ret (.bool true)) [bH g]) (.code (eO fTn 16) (tnE keep (((frm (crB c)).map ub).length:Nat) 0) (tnO b g t.d.size (t.d.safe++(frm (crB c)).take (bZ keep (frm (crB c)).length)) t.s (aC t.s c).1)):=λb w=>by
   obtain⟨J,y,S,m,H,I,K,D⟩:=fin b w;refine aFw g _ _ keep _ 0 _ _ b J y S m H I K ?_ (sm S (by rw[D];split;exact p;exact e.okT));rw[D,z];by_cases x:((frm (crB c)).length:Int)<=keep
   .rw [bu x,bu ⟨rfl,x⟩]
   .rw [bt x,bt (λh=>x h.2)]
  cases f
  .by_cases o:(frm (crB c)).take (bZ keep (frm (crB c)).length)=[]
   .have a:=oT t.d.size t.d.safe (frm (crB c)) keep o_ o_ o;have fin:=fin false (λ_=>o);rw[o,Ao]at fin;clear e sm p;generalize frm (crB c)=X at *
    generalize aC t.s c=R at *
    by_cases l:L.length<=i
    all_goals
     refine gV ?_
     repeat' first
      | exact To.partC [2,7,11,12,14,15] [0,2,5,6] rfl rfl rfl fin
      | (refine goN hE 1 rfl ?_;conv=>whnf)
      | refine .eff [] [4,3,2] _ _ rfl hs ?_
      | refine .pure _ [] r ?_
      | refine .eff [] [4,3,2] _ _ rfl h1 ?_
      | refine .eff [] [2] _ _ rfl j ?_
      | refine .eff [] [2] _ _ rfl a ?_
      | refine zt ?_
      | intro h
   .have a:=tF t.d.size t.d.safe (frm (crB c)) keep o_ o_ o;have fin:=fin true (λh=>by cases h);clear e sm p;generalize frm (crB c)=X at *
    generalize aC t.s c=R at *
    by_cases l:L.length<=i
    all_goals
     refine gV ?_
     repeat' first
      | exact To.partC [2,7,11,12,14,15] [0,2,5,6,7] rfl rfl rfl fin
      | (refine goN hE 1 rfl ?_;conv=>whnf)
      | refine .eff [] [4,3,2] _ _ rfl hs ?_
      | refine .pure _ [] r ?_
      | refine .eff [] [4,3,2] _ _ rfl h1 ?_
      | refine .eff [] [2] _ _ rfl j ?_
      | refine .eff [] [2] _ _ rfl a ?_
      | refine zt ?_
      | intro h
  .have a:=xR t.d.size t.d.safe (frm (crB c)) keep o_ o_;have fin:=fin true (λh=>by cases h);clear e sm p;generalize frm (crB c)=X at *
   generalize aC t.s c=R at *
   by_cases l:L.length<=i
   all_goals
    refine gV ?_
    repeat' first
     | exact To.partC [2,7,11,12,14,15] [0,2,6,7,5] rfl rfl rfl fin
     | (refine goN hE 1 rfl ?_;conv=>whnf)
     | refine .eff [] [4,3,2,5] _ _ rfl hs ?_
     | refine .pure _ [] r ?_
     | refine .eff [] [4,3,2,5] _ _ rfl h1 ?_
     | refine .eff [] [2,5] _ _ rfl j ?_
     | refine .eff [] [2,5] _ _ rfl a ?_
     | refine zt ?_
     | intro h
 .obtain ⟨_,h1,_,_,_⟩:=e.do_e c (λ_=>u.c) f (.inl q);have B:(doS t c).2.2=(aC t.s c).2.2:=by unfold doS;rw[bu q]
  rw[B]at h1;have j:=RL f t.d.size t.d.safe;have fin:=aFw g t.d.size t.d.safe keep (([]:List aa).length:Nat) (aC t.s c).2.2 t.s (aC t.s c).1 f f _ _ _ id (e.sop f g) (e.sst f) (by rw[bt (λh=>q h.1)]) (sm t.s e.okT);have F:((aC t.s c).2.2 !=(aC t.s c).2.2)=false:=bne_self_eq_false _;cases f
  .have a:=oV t.d.size t.d.safe keep o_;clear e sm;generalize aC t.s c=R at *
   by_cases l:L.length<=i
   all_goals
    refine gV ?_
    repeat' first
     | exact To.partC [2,7,11,12,14,15] [0,2,5,6] rfl rfl rfl fin
     | (refine goN hE 1 rfl ?_;conv=>whnf)
     | refine .eff [] [4,3,2] _ _ rfl hs ?_
     | refine .pure _ [] r ?_
     | refine .eff [] [4,3,2] _ _ rfl h1 ?_
     | refine .eff [] [2] _ _ rfl j ?_
     | refine .eff [] [2] _ _ rfl a ?_
     | refine zF F ?_
     | refine zt ?_
     | intro h
  .have a:=oU t.d.size t.d.safe keep o_;clear e sm;generalize aC t.s c=R at *
   by_cases l:L.length<=i
   all_goals
    refine gV ?_
    repeat' first
     | exact To.partC [2,7,11,12,14,15] [0,2,6,7,5] rfl rfl rfl fin
     | (refine goN hE 1 rfl ?_;conv=>whnf)
     | refine .eff [] [4,3,2,5] _ _ rfl hs ?_
     | refine .pure _ [] r ?_
     | refine .eff [] [4,3,2,5] _ _ rfl h1 ?_
     | refine .eff [] [2,5] _ _ rfl j ?_
     | refine .eff [] [2,5] _ _ rfl a ?_
     | refine zF F ?_
     | refine zt ?_
     | intro h
set_option maxHeartbeats 2000000 in
theorem aKx(L:List Cmd)(u:L.length<=1048576)(r:∀p∈L,p.c.sm)(c:Cmd)(x:CmSm c)(keep:Int)(g:List UInt8):∀(m i:Nat) (t:Kst) (k:Nat) (f:Bool),i+m=L.length->i<=30->KB t k->k<=i->t.d.size=1048576->
  To E fTn (.full 1 (.ret (.bool true)) [bH g]) (.head (stk fTn 0) (tnF L keep i) (tnP f g c t)):=by
 have v:(cmv L).length=L.length:=by simp
 intro m;induction m with
 | zero=>
  intro i t k f y q a n hz;exact aFv L c x keep i (.inl o_) u o_ g t k a o_ hz f
 | succ m l=>
  intro i t k f y q a n hz;by_cases z:i=30
  .exact aFv L c x keep i (.inr o_) u o_ g t k a o_ hz f
  have j:i<L.length:=o_;have get:(cmv L)[i]? =some L[i].av:=by simp[j]
  have hp:=r L[i] (Aq j);generalize L[i]=p at get hp;have b:KB (doS t p).1 (k+1):=a.step o_ ⟨1,p,0⟩ (λ_=>hp);have hz2:(doS t p).1.d.size=1048576:=by rw[kD];exact hz
  have next:=λA=>l (i+1) (doS t p).1 (k+1) A o_ o_ b o_ hz2
  by_cases o:(aC t.s p).2.2=0
  .have w:=Q7 a hz p;have h1:=(a.do_ok p (λ_=>hp) f o w).1;have next:=next true
   rw[lD o w]at next
   clear l a b r hp hz hz2;unfold aEX at next
   dsimp only at next
   generalize t.d.safe++frm (crB p)=X at *
   generalize aC t.s p=R at *
   cases f
   all_goals
    refine gV ?_
    repeat' first
     | exact To.part [0,2,4,7,8,10] [0,1,2,3,4,5] rfl rfl rfl next
     | (refine goN hE 1 rfl ?_;conv=>whnf)
     | refine Aj i (Aa rfl ?_)
     | refine Aj _ (Aa get ?_)
     | refine .eff [] [4,3,2] _ _ rfl h1 ?_
     | refine .eff [] [4,3,2,5] _ _ rfl h1 ?_
     | refine zt ?_
     | intro h
  .obtain ⟨h1,_,h3,_⟩:=a.do_e p (λ_=>hp) f (.inl o);have next:=next f
   rw[h3]at next
   clear l a b r hp hz hz2;generalize (doS t p).2.2=e at *
   cases f
   all_goals
    refine gV ?_
    repeat' first
     | exact To.part [0,2,4,7,8,10] [0,1,2,3,4] rfl rfl rfl next
     | exact To.part [0,2,4,7,8,10] [0,1,2,3,4,5] rfl rfl rfl next
     | (refine goN hE 1 rfl ?_;conv=>whnf)
     | refine Aj i (Aa rfl ?_)
     | refine Aj _ (Aa get ?_)
     | refine .eff [] [4,3,2] _ _ rfl h1 ?_
     | refine .eff [] [4,3,2,5] _ _ rfl h1 ?_
     | refine zt ?_
     | intro h
theorem aFJ(L:List Cmd)(d:L.length<=1048576)(i:∀p∈L,p.c.sm)(c:Cmd)(j:CmSm c)(keep:Int)(g:List UInt8):ar 5 [.slice 15 (cmv L) .no,c.av,ii keep] [bH g] (.ret (.bool true)) [bH g]:=by
 obtain⟨r,hs⟩:=sI L d i;obtain⟨l,a⟩:=sI [c] (show 1<=1048576 by decide) (λp hp=>by cases hp with|head=>exact j.c|tail _ h=>cases h);have e:=pF g;have k:=nL 1048576;have b:=kb0 1048576;have h1:=b.sop false g;have next:=aKx L d i c j keep g L.length 0 (jP 1048576) 0 false o_ d_ b o_ rfl
 clear b;cases r
 .refine cT (E:=E) (fn:=f5) (g:=.full 1 _ _) λ_=>?_
  repeat' first|(refine gN hE ?_;conv=>whnf)|refine .pure _ [] hs ?_|refine .eff [] [0] _ _ rfl e ?_|exact zx [0]|exact rfl|(refine zt ?_;try intro h)|refine zu (λh=>?_) λh=>?_|fail
 .cases l
  .refine cT (E:=E) (fn:=f5) (g:=.full 1 _ _) λ_=>?_
   repeat' first|(refine gN hE ?_;conv=>whnf)|refine .pure _ [] hs ?_|refine .pure _ [] (aA.strip a) ?_|refine .eff [] [0] _ _ rfl e ?_|exact zx [0]|exact rfl|(refine zt ?_;try intro h)|refine zu (λh=>?_) λh=>?_|fail
  .refine cT (E:=E) (fn:=f5) (g:=.full 1 _ _) λ_=>?_
   repeat' first|(refine gN hE ?_;conv=>whnf)|refine .pure _ [] hs ?_|refine .pure _ [] (aA.strip a) ?_|refine .pure _ _ k ?_|refine .eff [] [2,0] _ _ rfl h1 ?_|exact rfl|(refine zt ?_;try intro h)|refine zu (λh=>?_) λh=>?_|fail
   refine To.part [0,2,4,7,8,10] [0,1,2,3,4] rfl rfl rfl ?_;exact next
end Go.Proofs.YtenkdioaefckoaaGreatDoor
