/-
 Races: race.Races, walked. No condition.
-/
import Derived.Test.YtafdphmhbnjfaaaGreatDoorZRacK
import Derived.Test.YtafdphmhbnjfaaaGreatDoorZPe8
set_option linter.unusedVariables false
set_option linter.unusedSimpArgs false
set_option maxHeartbeats 8000000
open Nat renaming reduceAdd → rA,reduceMul → rB,reduceLT → rC,reduceEqDiff → rD,reduceLeDiff → rE
namespace Go.Pe
open Go Go.Am Go.RowKit
section
variable {cd:Cd}{l:List Et}{st st':St}{j i fuel n k key:Nat}{e:Int}{cfg:Cfg}{z:Bool}{v:PV}{o:Option PObj}{T is:List Nat}{m:MOp}
def Niw(i:Nat):PV:=.i .i64 (i:Int)
def fsP(o:Int)(p:Nat×Nat):PV:=.agg [.i .i64 o,.i .i64 (p.1:Int),.i .i64 (p.2:Int)]
def SM(st:St)(S lo:Nat)(sn:Int→List Nat):Prop:=∃ es f,st.get S=some (.map es)∧MK Nn7 0 es f∧(∀ o,Own st 1 ((f o).getD .nsl) (sn o).length ((sn o).map Niw))∧(∀ o k,k∈keyOf ((f o).getD .nsl)→lo≤k)∧∀ o o' k,o≠o'→k∈keyOf ((f o).getD .nsl)→k∉keyOf ((f o').getD .nsl)
def FM(st:St)(F:Nat)(fs:Int→Option (Nat×Nat)):Prop:=∃ es f,st.get F=some (.map es)∧MK Nn7 0 es f∧∀ o,f o=(fs o).map (fsP o)
theorem SM.zero{S lo:Nat}(h:st.get S=some (.map [])):SM st S lo fun _=>[]:=⟨[],_,h,MK.nil Nb6,fun _=>Own.nil _ _,fun _ k hk=>by simp[keyOf]at hk,fun _ _ k _ hk=>by simp[keyOf]at hk⟩
theorem FM.zero{F:Nat}(h:st.get F=some (.map [])):FM st F fun _=>none:=⟨[],_,h,MK.nil Nb6,fun _=>rfl⟩
theorem SM.move{S lo:Nat}{sn:Int→List Nat}(h:SM st S lo sn)(hc:st.cnt≤st'.cnt)(hS:st'.get S=st.get S)(hg:∀ j,lo≤j→j<st.cnt→(∃ a:List Nat,st.get j=some (.cells (a.map Niw) false))→st'.get j=st.get j):SM st' S lo sn:=by
 obtain⟨es,f,h1,h2,h3,h4,h5⟩:=h;refine⟨es,f,hS.trans h1,h2,fun o=>(h3 o).move hc fun j hj hlt=>hg j (h4 o j hj) hlt ?_,h4,h5⟩;rcases h3 o with⟨e,_⟩|⟨k,e,g,_⟩
 ·rw[e]at hj;simp[keyOf]at hj
 ·rw[e]at hj;simp only[keyOf,List.mem_singleton]at hj;subst hj;exact⟨_,g⟩
theorem FM.same{F:Nat}{fs:Int→Option (Nat×Nat)}(h:FM st F fs)(hF:st'.get F=st.get F):FM st' F fs:=by
 obtain⟨es,f,h1,h2,h3⟩:=h;exact⟨es,f,hF.trans h1,h2,h3⟩
theorem Nkt{l:List Nat}(h:i<l.length):List.take 1 (List.drop i (l.map Niw))=[.i .i64 ((l[i]:Nat):Int)]:=by
 rw[List.drop_eq_getElem_cons (by rw[List.length_map];exact h),List.getElem_map];rfl
theorem Nix(l:List Nat):(l.map Niw).length=l.length:=by simp
theorem Ngw(hc:CfgA cfg)(hv:∀ e,e∈l→EtOK cd e)(hl:l.length<1000)(hfu:l.length+6≤fuel)(st:St)(key:Nat) :
 ∃ cv st',Nas (Nai cfg (NaI cfg (fuel+5)) 29) false st key [.agg [slV cd.zo cd.O.length (cd.O.flatMap Dc.cs),slV cd.zt cd.T.length (cd.T.flatMap Tx.cs)],slV z l.length (l.flatMap Et.cs)]=some (cv,st')∧st'.cnt=st.cnt∧(∀ j,j≠key→st'.get j=st.get j)∧(0<l.length→cv=.rsl key 1 0 l.length∧st'.get key=some (.cells ((Nbo cd l l.length).map clP) false)):=by
 by_cases h0:0<l.length
 ·exact⟨_,_,NeD hc hv hl hfu h0 st key,rfl,fun j hj=>Yae (Ne.symm hj),fun _=>⟨rfl,Yaf _ _ _⟩⟩
 ·have hr:=NfA hc (z:=z) hv hl hfu;have e:Nbo cd l l.length=[]:=by unfold Nbo;rw[show l.length=0 by omega];rfl
  rw[e]at hr;exact⟨.nsl,st,Na1 (Na5 Nbt Ndu) hr rfl rfl,rfl,fun _ _=>rfl,fun h=>absurd h h0⟩
theorem NkZ:∀ rs:List (Nat×Nat×Nat),(rs.flatMap rcC).all PV.flat=true
 |[]=>rfl
 |r::rs=>by rw[List.flatMap_cons,List.all_append,NkZ rs];rfl
theorem Nk0{st:St}:∀ rs:List (Nat×Nat×Nat),keysL st (rs.flatMap rcC)=[]
 |[]=>rfl
 |r::rs=>by
   have:=Nk0 (st:=st) rs;unfold keysL at this ⊢;rw[List.flatMap_cons,List.flatMap_append,this];rfl
theorem NiG(rs:List (Nat×Nat×Nat)):(rs.flatMap rcC).length=rs.length * 3:=NaH (f:=rcC) (fun _=>rfl) rs
theorem NlE{rs:List (Nat×Nat×Nat)}(ho:Own st 3 v rs.length (rs.flatMap rcC))(hz:rs=[]→v=.nsl):NaX st v=some (NoY rs):=by
 unfold NoY;by_cases h0:rs=[]
 ·rw[hz h0,if_pos h0];rfl
 rw[if_neg h0];rcases ho with⟨rfl,h1,_⟩|⟨k,rfl,h1,h2,h3⟩
 ·exact absurd (List.eq_nil_of_length_eq_zero h1) h0
 ·have hw:Ndn? st (.rsl k 3 0 rs.length)=some (k,3,rs.length,rs.flatMap rcC):=by
   unfold Ndn?;simp only[h1];rw[if_pos ⟨trivial,h2,by omega⟩]
  unfold NaX;simp only[hw,Nk0,NbE (NkZ rs),List.contains_nil,Bool.false_eq_true,if_false,Option.map_some]
theorem Nk7{ac:Nat→Bool}{ob:Nat→Int}(j:Nat)(o:Int):(Nb8 ac ob j o).length≤j:=by
 induction j with
 |zero=>exact Nat.le_refl _
 |succ j ih =>
   rw[Nb8];split
   ·rw[List.length_append,List.length_singleton];omega
   ·omega
theorem Top.putN{sto:Trie PObj}{c c':Nat}(h:Top ⟨sto,c⟩)(hk:k<c')(hc:c≤c'):Top ⟨(St.put ⟨sto,n⟩ k o).sto,c'⟩:=fun j hj=>by
 show St.get (St.put ⟨sto,n⟩ k o) j=none;simp only at hj;rw[Yae Zaa];exact h j Zad
theorem Top.putS{sto:Trie PObj}{c:Nat}(h:Top ⟨sto,c⟩)(hk:k<n)(hc:c≤n):Top (St.put ⟨sto,n⟩ k o):=h.putN hk hc
theorem Top.put(h:Top st)(hk:k<st.cnt):Top (St.put st k o):=fun j hj=>by
 have hj':st.cnt≤j:=hj;rw[Yae Zaa];exact h j hj'
theorem Nk6(S:Nat):PV.same Nbx (.mp S) (.mp S)=true:=by simp[Nbx,PV.same]
theorem Ngl(k o:Nat):PV.same Nbx (.ptr k o) (.ptr k o)=true:=by simp[Nbx,PV.same]
theorem Nk5(k:IntKind)(n:Int):PV.same Nbx (.i k n) (.i k n)=true:=by simp[Nbx,PV.same]
theorem Nbu{k0:Nat}{ρ:Arg→PV}(h:key∉T):NkB false T k0 key ρ st m:=fun _=>⟨fun _=>h,nofun⟩
theorem Na7(hq:NaU m=true)(h1:PV.same Nbx v v=true)(h2:st'.get key=none):NbO true T key m st v st':=by
 rw[Nam _ _ _ _ _ _ _ hq,Nan,h2];exact⟨h1,rfl⟩
theorem NaD(hq:NaU m=true):NbO false T key m st v st':=by
 rw[Nam _ _ _ _ _ _ _ hq,Nao];trivial
theorem Nc3{st:St}{l:List Dc}{i:Nat}(h:i<l.length):Nbk st 1 (.fptr ((l.flatMap Dc.cs).drop (i * 5)))=some [.i .u8 (l[i].K.toNat:Int)]:=by
 rw[NbV Dc.cs_len h];show cut? _ 0 1=_;unfold cut?;rw[if_pos (by simp[Dc.cs])];rfl
theorem Nhb(h:Nfr cd l j=false):NdB cd l (j+1)=NdB cd l j:=by
 funext o;show Nb8 _ _ (j+1) o=Nb8 _ _ j o;rw[Nb8,h];simp
theorem Nij(h:Nfr cd l j=false):Ngo cd l (j+1)=Ngo cd l j:=by
 funext o;show Nja _ _ _ (j+1) o=Nja _ _ _ j o;rw[Nja,h];simp
theorem NoI(h:Nfr cd l j=true)(he:jL l j=e):NdB cd l (j+1) e=NdB cd l j e++[j]:=by
 show Nb8 _ _ (j+1) e=Nb8 _ _ j e++[j];rw[Nb8,h,he];simp
theorem Njq{o:Int}(he:¬ jL l j=o):NdB cd l (j+1) o=NdB cd l j o:=by
 show Nb8 _ _ (j+1) o=Nb8 _ _ j o;rw[Nb8,if_neg Zah]
theorem Ng9:Nhk cd l (n+1)=Nhk cd l n++(Noz cd l n).toList:=by
 unfold Nhk;rw[List.range_succ,List.filterMap_append];cases h:Noz cd l n<;>simp[h]
theorem NkU(cd:Cd)(l:List Et)(n:Nat):(Nhk cd l n).length≤n:=by
 unfold Nhk;have:=List.length_filterMap_le (Noz cd l) (List.range n);rw[List.length_range]at this;exact this
def NfG(cd:Cd)(l:List Et)(j:Nat)(e:Int)(is:List Nat):Int→Option (Nat×Nat):=fun o=>if o=e then(Ngo cd l j o).or (NhB (rcB cd l) j is)else Ngo cd l j o
theorem Nj7:NfG cd l j e []=Ngo cd l j:=by
 funext o;unfold NfG NhB;split
 ·simp
 ·rfl
theorem Nl4(h:Nfr cd l j=true)(he:jL l j=e):NfG cd l j e (NdB cd l j e)=Ngo cd l (j+1):=by
 funext o;show _=Nja _ _ _ (j+1) o;rw[Nja,h];unfold NfG;by_cases ho:o=e
 ·subst ho;rw[if_pos rfl,he];simp
 ·rw[if_neg ho,if_neg Zah]
theorem NgJ:NfG cd l j e (is++[i])=fun o=>if o=e∧NfG cd l j e is e=none∧rcB cd l i j=true then some (i,j)else NfG cd l j e is o:=by
 funext o;unfold NfG NhB;rw[List.find?_append];by_cases ho:o=e
 ·subst ho;simp only[if_true,true_and];cases Ngo cd l j o with
  |some p=>simp
  |none =>
    cases is.find? (rcB cd l · j)with
    |some p=>simp
    |none=>simp
 ·simp[ho]
theorem Njb(o:Int):NfG cd l j e (is++[i]) o=if o=e∧NfG cd l j e is e=none∧rcB cd l i j=true then some (i,j)else NfG cd l j e is o:=congrFun NgJ o
theorem Nj6(h:¬ (NfG cd l j e is e=none∧rcB cd l i j=true)):NfG cd l j e (is++[i])=NfG cd l j e is:=by
 rw[NgJ];funext o;rw[if_neg fun c=>h c.2]
theorem Nmx{Gl:Gmap}(hok:CfgOK Go.Proofs.Tryz.prog Gl cfg)(hc:CfgA cfg)(htp:Top st){ck:Int}(hck:Nai cfg (NaI cfg (fuel+5)) 47 [.agg (Cd.cs cd)]=some (.i .i64 ck))(hl:l.length+6≤fuel)(hl2:l.length<1000)(hOf:cd.O.length+6≤fuel)(hO:cd.O.length≤reachBytes)(hT:cd.T.length≤reachBytes)(h16:ck=0→cd.T.length≤64)(h64:ck=0→cd.O.length≤64) :
 ∃ r st',NaI cfg (fuel+7) 14 [.agg (Cd.cs cd),slV z l.length (l.flatMap Et.cs)] st=some (r,st')∧NaX st' r=some (NoY (Nnf ck cd l)):=by
 refine NaB (hc.fn _ _ (by kernel_rfl):cfg.fn 14=some m14) ?_;have hrb:reachBytes=140737488351232:=rfl;have gt:∀ (st:St) (key:Nat),Nas (Nai cfg (NaI cfg (fuel+6)) 28) false st key [.agg [slV cd.zo cd.O.length (cd.O.flatMap Dc.cs),slV cd.zt cd.T.length (cd.T.flatMap Tx.cs)],slV z l.length (l.flatMap Et.cs)]=some (.b (trV ck cd l),st):=fun st key=>Na1 (Na5 Nbt Ndu) (Nhg hc hck Zaa hO hT Zaa) rfl rfl;delta m14 Qa Qr Qf Qg Ql Qt Qn Qs Qk Qm Qh Qi Qu Qv Qo Qw Cd.cs;have hlv:=NaG z l.length (l.flatMap Et.cs);have hE:=NaH Et.cs_len l;have hD:=NaH Dc.cs_len cd.O;obtain⟨R,hR⟩:∃ R,Nnf ck cd l=R:=⟨_,rfl⟩;rw[hR];unfold Nnf at hR;refine Nd2 hok htp ?_;obtain⟨sto0,c0⟩:=st;simp only[Nal];cases ht:trV ck cd l with
 |false =>
   rw[ht]at gt hR
   iterate 4
    (try rw[Z0]);(try simp(maxSteps:=9^7)(disch:=first|omega|rfl|assumption)only[↓Yaa,Yab,Nae,Naa,rA,rB,rC,rD,reduceIte,unP,rE,Nag,Naf,gt,hlv])
   intro _;refine⟨nofun,_,rfl,?_⟩;simp only[NaC,Yad,if_true];subst hR;rfl
 |true =>
   rw[ht]at gt hR;have hck0:ck=0:=by
    unfold trV at ht;simp only[Bool.and_eq_true,beq_iff_eq]at ht;exact ht.1
   have hv:=NiQ ht (h16 hck0);have gk:=Ngw hc (z:=z) (fuel:=fuel+1) hv hl2 Zaa
   iterate 3
    (try rw[Z0]);(try simp(maxSteps:=9^7)(disch:=first|omega|rfl|assumption)only[↓Yaa,Yab,Nae,Naa,rA,rB,rC,rD,reduceIte,unP,rE,Nag,Naf,gt,hlv])
   refine NaF (fun x=>∃ (B:Nat),B<x.st.cnt∧x.env.get 1=slV z l.length (l.flatMap Et.cs)∧x.env.get 2=.ptr B 0∧x.st.get B=some (.cells [slV cd.zo cd.O.length (cd.O.flatMap Dc.cs),slV cd.zt cd.T.length (cd.T.flatMap Tx.cs)] false)∧(Top x.st)) ?_ ?_
   ·refine⟨c0,?_,Zab,Zab,?_,(htp.putN Zaa Zaa)⟩<;>first|with_reducible rfl|with_reducible assumption|exact kB _|omega|(simp only[Z0L_,Naw];omega)|(simp only;omega)|(simp(disch:=omega)only[Nap,Naq,Yaf];first|done|with_reducible rfl|with_reducible assumption)
   rintro⟨env,⟨sto,c⟩⟩ ⟨B,bB,g1,g2,kB,ht⟩;try simp only at bB g1 g2 ht
   replace kB:∀ n',St.get ⟨sto,n'⟩ B=some (.cells [slV cd.zo cd.O.length (cd.O.flatMap Dc.cs),slV cd.zt cd.T.length (cd.T.flatMap Tx.cs)] false):=fun _=>kB;(try rw[Z0]);(try simp(maxSteps:=9^7)(disch:=first|omega|rfl|assumption)only[↓Yaa,Yab,Nae,Naa,rA,rB,rC,rD,reduceIte,unP,rE,g1,g2,kB,hlv,Nag,Naf]);obtain⟨cv,st1,e1,q1,q2,q3⟩:=gk ⟨sto,c+32⟩ (c+16);refine⟨cv,st1,e1,?_⟩;obtain⟨sto1,c1⟩:=st1;simp only at q1;subst q1;have kB1:∀ n',St.get ⟨sto1,n'⟩ B=_:=fun _=>(q2 B Zaa).trans (kB _)
   iterate 2
    (try rw[Z0]);(try simp(maxSteps:=9^7)(disch:=first|omega|rfl|assumption)only[↓Yaa,Yab,Nae,Naa,rA,rB,rC,rD,reduceIte,unP,rE,g1,g2,kB,hlv])
   have htB:Top ⟨sto1,c+32⟩:=fun k hk=>by
    simp only at hk;rw[show St.get ⟨sto1,c+32⟩ k=St.get ⟨sto,c+32⟩ k from q2 k Zaa];exact ht k Zad
   refine NaF (fun x=>∃ (K:Nat) (S:Nat) (F:Nat),B<x.st.cnt∧x.env.get 1=slV z l.length (l.flatMap Et.cs)∧x.env.get 2=.ptr B 0∧x.st.get B=some (.cells [slV cd.zo cd.O.length (cd.O.flatMap Dc.cs),slV cd.zt cd.T.length (cd.T.flatMap Tx.cs)] false)∧(Top x.st)∧(B<K)∧K<x.st.cnt∧(K<S)∧S<x.st.cnt∧(S<F)∧F<x.st.cnt∧x.env.get 5=cv∧x.env.get 6=.mp S∧x.env.get 7=.mp F∧((0<l.length→cv=.rsl K 1 0 l.length∧x.st.get K=some (.cells ((Nbo cd l l.length).map clP) false)))∧(SM x.st S (F+1) (fun _=>[]))∧(FM x.st F (fun _=>none))) ?_ ?_
   ·exact⟨c+16,c+32,c+48,(by first|omega|(simp only[Z0L_,Naw];omega)|(simp only;omega)),(by first|with_reducible rfl|with_reducible assumption|(simp[Yad,g1,g2]<;>omega)),(by first|with_reducible rfl|with_reducible assumption|(simp[Yad,g1,g2]<;>omega)),(by simp(disch:=omega)only[Nap,Naq];exact kB1 _),(by refine(htB.putN (c':=c+48) (k:=c+32) (by omega) (by omega)).putS ?_ ?_<;>omega),(by first|assumption|rfl|omega|(simp only[Z0L_,Naw];omega)|(simp;omega)|(simp;done)),(by first|omega|(simp only[Z0L_,Naw];omega)|(simp only;omega)),(by first|assumption|rfl|omega|(simp only[Z0L_,Naw];omega)|(simp;omega)|(simp;done)),(by first|omega|(simp only[Z0L_,Naw];omega)|(simp only;omega)),(by first|assumption|rfl|omega|(simp only[Z0L_,Naw];omega)|(simp;omega)|(simp;done)),(by first|omega|(simp only[Z0L_,Naw];omega)|(simp only;omega)),(by first|with_reducible rfl|with_reducible assumption|(simp[Yad,g1,g2]<;>omega)),(by first|with_reducible rfl|with_reducible assumption|(simp[Yad,g1,g2]<;>omega)),(by first|with_reducible rfl|with_reducible assumption|(simp[Yad,g1,g2]<;>omega)),(fun h=>⟨(q3 h).1,by simp(disch:=omega)only[Nap,Naq];exact(q3 h).2⟩),(SM.zero (by simp(disch:=omega)only[Nap,Naq];rw[Yaf])),(FM.zero (by rw[Yaf]))⟩
   clear bB g1 g2 kB ht;rintro⟨env,⟨sto,c⟩⟩ ⟨K,S,F,bB,g1,g2,kB,ht,oK,bK,oS,bS,oF,bF,g5,g6,g7,hK,hS,hF⟩;try simp only at bB g1 g2 ht bK bS bF g5 g6 g7 hK hS hF
   replace kB:∀ n',St.get ⟨sto,n'⟩ B=some (.cells [slV cd.zo cd.O.length (cd.O.flatMap Dc.cs),slV cd.zt cd.T.length (cd.T.flatMap Tx.cs)] false):=fun _=>kB;have hcl:∀ i,NaV (Ndh cd l i)=true:=Nm0 hv;refine NaT (fun x=>x.env.get 2=.ptr B 0∧x.env.get 7=.mp F∧F<x.st.cnt∧x.st.get B=some (.cells [slV cd.zo cd.O.length (cd.O.flatMap Dc.cs),slV cd.zt cd.T.length (cd.T.flatMap Tx.cs)] false)∧(FM x.st F (Ngo cd l l.length))) ?_ ?_
   ·intro K1 hK1
    iterate 2
     (try rw[Z0]);(try simp(maxSteps:=9^7)(disch:=first|omega|rfl|assumption)only[↓Yaa,Yab,Nae,Naa,rA,rB,rC,rD,reduceIte,unP,rE,g1,g2,kB,g5,g6,g7,hlv])
    refine Z9 (k:=l.length - 0) (fun m x=>∃ (j:Nat),m=l.length - j∧x.env.get 1=slV z l.length (l.flatMap Et.cs)∧x.env.get 2=.ptr B 0∧x.env.get 5=cv∧x.env.get 6=.mp S∧x.env.get 7=.mp F∧x.env.get 28=slV z l.length (l.flatMap Et.cs)∧x.env.get 29=.i .i64 (l.length:Int)∧x.env.get 30=.i .i64 (j:Int)∧x.st.get B=some (.cells [slV cd.zo cd.O.length (cd.O.flatMap Dc.cs),slV cd.zt cd.T.length (cd.T.flatMap Tx.cs)] false)∧B<x.st.cnt∧F<x.st.cnt∧(j≤l.length)∧((0<l.length→cv=.rsl K 1 0 l.length∧x.st.get K=some (.cells ((Nbo cd l l.length).map clP) false)))∧(SM x.st S (F+1) (NdB cd l j))∧(FM x.st F (Ngo cd l j))∧(Top x.st)) ?_ ?_ Zaa
    ·clear bB g1 g2 kB ht bK bS bF g5 g6 g7 hK hS hF;rintro m ⟨env,⟨sto,c⟩⟩ ⟨j,rfl,g1,g2,g5,g6,g7,g28,g29,g30,kB,bB,bF,hj,hK,hS,hF,ht⟩;try simp only at g1 g2 g5 g6 g7 g28 g29 g30 bB bF hK hS hF ht
     replace kB:∀ n',St.get ⟨sto,n'⟩ B=some (.cells [slV cd.zo cd.O.length (cd.O.flatMap Dc.cs),slV cd.zt cd.T.length (cd.T.flatMap Tx.cs)] false):=fun _=>kB;refine Nd2 hok ht ?_;by_cases hjl:j<l.length
     ·obtain⟨rfl,kK⟩:=hK Zaa;rw[Nay hjl]at g1 g28;obtain⟨e,he⟩:∃ e,l[j]=e:=⟨_,rfl⟩;have hld:=fun st=>Ndl (st:=st) hjl;simp only[he]at hld;have hok2:=hv e (he▸List.getElem_mem hjl);have hgd:l.getD j etZ=e:=(by rw[NdL hjl,he]);obtain⟨kd,hkd⟩:∃ kd,kdE cd e=kd:=⟨_,rfl⟩;have hldk:=fun st=>Nc3 (st:=st) hok2.j1;simp only[Nkg hok2,hkd]at hldk;have hJ0:=hok2.j0;have hJ1:=hok2.j1;have hzo:=Nay (z:=cd.zo) (cs:=cd.O.flatMap Dc.cs) hJ1
      iterate 4
       (try rw[Z0]);(try simp(maxSteps:=9^7)(disch:=first|omega|rfl|assumption)only[↓Yaa,Yab,Nae,Naa,rA,rB,rC,rD,reduceIte,unP,rE,g1,g2,g5,g6,g7,g28,g29,g30,kB,hld,hE])
      refine NaF (fun x=>∃ (E:Nat),x.env.get 1=.fsl l.length (l.flatMap Et.cs)∧x.env.get 2=.ptr B 0∧x.env.get 5=.rsl K 1 0 l.length∧x.env.get 6=.mp S∧x.env.get 7=.mp F∧x.env.get 28=.fsl l.length (l.flatMap Et.cs)∧x.env.get 29=.i .i64 (l.length:Int)∧x.env.get 30=.i .i64 (j:Int)∧x.st.get B=some (.cells [slV cd.zo cd.O.length (cd.O.flatMap Dc.cs),slV cd.zt cd.T.length (cd.T.flatMap Tx.cs)] false)∧B<x.st.cnt∧F<x.st.cnt∧(SM x.st S (F+1) (NdB cd l j))∧(FM x.st F (Ngo cd l j))∧(Top x.st)∧(F<E)∧E<x.st.cnt∧x.env.get 8=.i .i64 (j:Int)∧x.env.get 9=.ptr E 0∧x.st.get E=some (.cells [.i .i64 e.T,.i .u8 (e.O.toNat:Int),.i .i64 e.J,.i .i64 e.A,.i .i64 e.B] false)∧x.st.get K=some (.cells ((Nbo cd l l.length).map clP) false)) ?_ ?_
      ·refine⟨c+32,?_,?_,?_,?_,?_,?_,?_,?_,?_,?_,?_,(hS.move (by simp only[Z0L_];omega) (by simp(disch:=omega)only[Nap,Naq];rfl) (fun q a b _=>by simp only at b;simp(disch:=omega)only[Nap,Naq];rfl)),(hF.same (by simp(disch:=omega)only[Nap,Naq];rfl)),(Top.put (Top.put (Top.le ht (c':=c+56) Zaa) (by show c+32<c+56;omega)) (by show c+32<c+56;omega)),?_,?_,?_,?_,?_,(by simp(disch:=omega)only[Nap,Naq];exact kK)⟩<;>first|with_reducible rfl|with_reducible assumption|exact kB _|exact kE _|(simp[Yad,g1,g2,g5,g6,g7,g28,g29,g30]<;>omega)|(simp(disch:=omega)only[Nap,Naq,Yaf,kB];first|done|with_reducible rfl|with_reducible assumption)|omega|(simp only[Z0L_,Naw];omega)|(simp only;omega)|assumption|rfl|(simp;omega)|(simp;done)
      clear g1 g2 g5 g6 g7 g28 g29 g30 kB bB bF hK hS hF ht;rintro⟨env,⟨sto,c⟩⟩ ⟨E,g1,g2,g5,g6,g7,g28,g29,g30,kB,bB,bF,hS,hF,ht,oE,bE,g8,g9,kE,kK⟩;try simp only at g1 g2 g5 g6 g7 g28 g29 g30 bB bF hS hF ht bE g8 g9
      replace kB:∀ n',St.get ⟨sto,n'⟩ B=some (.cells [slV cd.zo cd.O.length (cd.O.flatMap Dc.cs),slV cd.zt cd.T.length (cd.T.flatMap Tx.cs)] false):=fun _=>kB;replace kE:∀ n',St.get ⟨sto,n'⟩ E=some (.cells [.i .i64 e.T,.i .u8 (e.O.toNat:Int),.i .i64 e.J,.i .i64 e.A,.i .i64 e.B] false):=fun _=>kE;replace kK:∀ n',St.get ⟨sto,n'⟩ K=some (.cells ((Nbo cd l l.length).map clP) false):=fun _=>kK;have hju:jL l j=e.J:=(by unfold jL;rw[hgd]);have nu:∀ (u:UInt8) (v:Nat),u.toNat=v→((u.toNat:Int) != ((v:Nat):Int))=false:=fun u v h=>by rw[h];simp
      have nn:∀ (u:UInt8) (v:Nat),u.toNat≠v→((u.toNat:Int) != ((v:Nat):Int))=true:=fun u v h=>by simp;omega
      have u9:kd.K=9↔kd.K.toNat=9:=⟨fun h=>by rw[h];rfl,fun h=>UInt8.toNat_inj.1 h⟩;have u22:e.O=22↔e.O.toNat=22:=⟨fun h=>by rw[h];rfl,fun h=>UInt8.toNat_inj.1 h⟩;have u23:e.O=23↔e.O.toNat=23:=⟨fun h=>by rw[h];rfl,fun h=>UInt8.toNat_inj.1 h⟩;have hacd:Nfr cd l j=(decide (kd.K.toNat=9)&&(decide (e.O.toNat=22)||decide (e.O.toNat=23))):=by
       unfold Nfr;rw[hgd,hkd,Bool.eq_iff_iff];simp only[Bool.and_eq_true,Bool.or_eq_true,beq_iff_eq,decide_eq_true_eq,u9,u22,u23]
      refine NaT (fun x=>x.env.get 1=.fsl l.length (l.flatMap Et.cs)∧x.env.get 2=.ptr B 0∧x.env.get 5=.rsl K 1 0 l.length∧x.env.get 6=.mp S∧x.env.get 7=.mp F∧x.env.get 28=.fsl l.length (l.flatMap Et.cs)∧x.env.get 29=.i .i64 (l.length:Int)∧x.env.get 30=.i .i64 (j:Int)∧x.st.get B=some (.cells [slV cd.zo cd.O.length (cd.O.flatMap Dc.cs),slV cd.zt cd.T.length (cd.T.flatMap Tx.cs)] false)∧B<x.st.cnt∧F<x.st.cnt∧(SM x.st S (F+1) (NdB cd l j))∧(FM x.st F (Ngo cd l j))∧(Top x.st)∧E<x.st.cnt∧x.env.get 8=.i .i64 (j:Int)∧x.env.get 9=.ptr E 0∧x.st.get E=some (.cells [.i .i64 e.T,.i .u8 (e.O.toNat:Int),.i .i64 e.J,.i .i64 e.A,.i .i64 e.B] false)∧x.st.get K=some (.cells ((Nbo cd l l.length).map clP) false)∧((Nfr cd l j=true))) ?_ ?_
      ·intro K2 hK2;by_cases h9:kd.K.toNat=9
       ·have n9:=nu _ 9 h9;by_cases h22:e.O.toNat=22
        ·have n22:=nu _ 22 h22
         iterate 3
          (try rw[Z0]);(try simp(maxSteps:=9^7)(disch:=first|omega|rfl|assumption)only[↓Yaa,Yab,Nae,Naa,rA,rB,rC,rD,reduceIte,unP,rE,g1,g2,g5,g6,g7,g28,g29,g30,kB,g8,g9,kE,kK,hldk,hzo,n9,n22,hD])
         refine hK2 _ ⟨?_,?_,?_,?_,?_,?_,?_,?_,?_,?_,?_,(hS.move Zad rfl (fun _ _ _ _=>rfl)),(hF.same rfl),(ht.le Zaa),?_,?_,?_,?_,?_,(by rw[hacd,h9,h22];rfl)⟩<;>first|with_reducible rfl|with_reducible assumption|exact kB _|exact kE _|exact kK _|(simp[Yad,g1,g2,g5,g6,g7,g28,g29,g30,g8,g9]<;>omega)|(simp(disch:=omega)only[Nap,Naq,Yaf,kB,kE,kK];first|done|with_reducible rfl|with_reducible assumption)|omega|(simp only[Z0L_,Naw];omega)|(simp only;omega)
        by_cases h23:e.O.toNat=23
        ·have n22:=nn _ 22 h22;have n23:=nu _ 23 h23
         iterate 3
          (try rw[Z0]);(try simp(maxSteps:=9^7)(disch:=first|omega|rfl|assumption)only[↓Yaa,Yab,Nae,Naa,rA,rB,rC,rD,reduceIte,unP,rE,g1,g2,g5,g6,g7,g28,g29,g30,kB,g8,g9,kE,kK,hldk,hzo,n9,n22,n23,hD])
         refine hK2 _ ⟨?_,?_,?_,?_,?_,?_,?_,?_,?_,?_,?_,(hS.move Zad rfl (fun _ _ _ _=>rfl)),(hF.same rfl),(ht.le Zaa),?_,?_,?_,?_,?_,(by rw[hacd,h9,h23];rfl)⟩<;>first|with_reducible rfl|with_reducible assumption|exact kB _|exact kE _|exact kK _|(simp[Yad,g1,g2,g5,g6,g7,g28,g29,g30,g8,g9]<;>omega)|(simp(disch:=omega)only[Nap,Naq,Yaf,kB,kE,kK];first|done|with_reducible rfl|with_reducible assumption)|omega|(simp only[Z0L_,Naw];omega)|(simp only;omega)
        have hac:Nfr cd l j=false:=(by rw[hacd,decide_eq_false h22,decide_eq_false h23];simp);have n22:=nn _ 22 h22;have n23:=nn _ 23 h23
        iterate 5
         (try rw[Z0]);(try simp(maxSteps:=9^7)(disch:=first|omega|rfl|assumption)only[↓Yaa,Yab,Nae,Naa,rA,rB,rC,rD,reduceIte,unP,rE,g1,g2,g5,g6,g7,g28,g29,g30,kB,g8,g9,kE,kK,hldk,hzo,n9,n22,n23,hD])
        intro ht2;exact⟨l.length - (j+1),by omega,j+1,rfl,(Nay hjl).symm,(Nay hjl).symm,rfl,by omega,fun h=>h,by rw[Nhb hac];exact hS.move Zad rfl (fun _ _ _ _=>rfl),by rw[Nij hac];exact hF.same rfl,ht2⟩
       ·have hac:Nfr cd l j=false:=(by rw[hacd,decide_eq_false h9];simp);have n9:=nn _ 9 h9
        iterate 5
         (try rw[Z0]);(try simp(maxSteps:=9^7)(disch:=first|omega|rfl|assumption)only[↓Yaa,Yab,Nae,Naa,rA,rB,rC,rD,reduceIte,unP,rE,g1,g2,g5,g6,g7,g28,g29,g30,kB,g8,g9,kE,kK,hldk,hzo,n9,hD])
        intro ht2;exact⟨l.length - (j+1),by omega,j+1,rfl,(Nay hjl).symm,(Nay hjl).symm,rfl,by omega,fun h=>h,by rw[Nhb hac];exact hS.move Zad rfl (fun _ _ _ _=>rfl),by rw[Nij hac];exact hF.same rfl,ht2⟩
      clear g1 g2 g5 g6 g7 g28 g29 g30 kB bB bF hS hF ht bE g8 g9 kE kK;rintro⟨env,⟨sto,c⟩⟩ ⟨g1,g2,g5,g6,g7,g28,g29,g30,kB,bB,bF,hS,hF,ht,bE,g8,g9,kE,kK,hac⟩;try simp only at g1 g2 g5 g6 g7 g28 g29 g30 bB bF hS hF ht bE g8 g9
      replace kB:∀ n',St.get ⟨sto,n'⟩ B=some (.cells [slV cd.zo cd.O.length (cd.O.flatMap Dc.cs),slV cd.zt cd.T.length (cd.T.flatMap Tx.cs)] false):=fun _=>kB;replace kE:∀ n',St.get ⟨sto,n'⟩ E=some (.cells [.i .i64 e.T,.i .u8 (e.O.toNat:Int),.i .i64 e.J,.i .i64 e.A,.i .i64 e.B] false):=fun _=>kE;replace kK:∀ n',St.get ⟨sto,n'⟩ K=some (.cells ((Nbo cd l l.length).map clP) false):=fun _=>kK;obtain⟨es,f,qS,mS,oS',lS,dS⟩:=id hS;obtain⟨sv,hsv⟩:∃ sv,(f e.J).getD .nsl=sv:=⟨_,rfl⟩;have own:=oS' e.J;rw[hsv]at own;obtain⟨q,hq⟩:∃ q,NdB cd l j e.J=q:=⟨_,rfl⟩;rw[hq]at own;have hmt:NaZ 0 (.i .i64 e.J) es=some (f e.J):=mS.get e.J;have kS:∀ n',St.get ⟨sto,n'⟩ S=some (.map es):=fun _=>qS;have lo:=own.len;have hql:q.length≤l.length:=(by rw[←hq];exact Nat.le_trans (Nk7 _ _) hj);refine NaT (fun x=>x.env.get 1=.fsl l.length (l.flatMap Et.cs)∧x.env.get 2=.ptr B 0∧x.env.get 5=.rsl K 1 0 l.length∧x.env.get 6=.mp S∧x.env.get 7=.mp F∧x.env.get 28=.fsl l.length (l.flatMap Et.cs)∧x.env.get 29=.i .i64 (l.length:Int)∧x.env.get 30=.i .i64 (j:Int)∧x.st.get B=some (.cells [slV cd.zo cd.O.length (cd.O.flatMap Dc.cs),slV cd.zt cd.T.length (cd.T.flatMap Tx.cs)] false)∧B<x.st.cnt∧F<x.st.cnt∧(SM x.st S (F+1) (NdB cd l j))∧(FM x.st F (Ngo cd l (j+1)))∧(Top x.st)∧E<x.st.cnt∧x.env.get 8=.i .i64 (j:Int)∧x.env.get 9=.ptr E 0∧x.st.get E=some (.cells [.i .i64 e.T,.i .u8 (e.O.toNat:Int),.i .i64 e.J,.i .i64 e.A,.i .i64 e.B] false)∧x.st.get K=some (.cells ((Nbo cd l l.length).map clP) false)) ?_ ?_
      ·intro K3 hK3;refine Nd2 hok ht ?_
       iterate 2
        (try rw[Z0]);(try simp(maxSteps:=9^7)(disch:=first|omega|rfl|assumption)only[↓Yaa,Yab,Nae,Naa,rA,rB,rC,rD,reduceIte,unP,rE,g1,g2,g5,g6,g7,g28,g29,g30,kB,g8,g9,kE,kK,kS,hmt,Option.map_some,hsv,lo])
       obtain⟨S0,hS0⟩:∃ S0,(⟨sto,c⟩:St)=S0:=⟨_,rfl⟩;have cS:S0.cnt=c:=(by rw[←hS0]);have aS:SM S0 S (F+1) (NdB cd l j):=hS0▸hS;have aq:Own S0 1 sv q.length (q.map Niw):=hS0▸own;have aB:S0.get B=_:=hS0▸kB c;have aE:S0.get E=_:=hS0▸kE c;have aK:S0.get K=_:=hS0▸kK c;have lZ:B<S0.cnt∧E<S0.cnt∧K<S0.cnt∧S<S0.cnt∧F<S0.cnt:=(by rw[cS];omega);refine Z9 (k:=q.length - 0) (fun m x=>∃ (i:Nat),m=q.length - i∧x.env.get 1=.fsl l.length (l.flatMap Et.cs)∧x.env.get 2=.ptr B 0∧x.env.get 5=.rsl K 1 0 l.length∧x.env.get 6=.mp S∧x.env.get 7=.mp F∧x.env.get 8=.i .i64 (j:Int)∧x.env.get 9=.ptr E 0∧x.env.get 28=.fsl l.length (l.flatMap Et.cs)∧x.env.get 29=.i .i64 (l.length:Int)∧x.env.get 30=.i .i64 (j:Int)∧x.env.get 56=sv∧x.env.get 57=.i .i64 (q.length:Int)∧x.env.get 58=.i .i64 (i:Int)∧(i≤q.length)∧(S0.cnt≤x.st.cnt)∧((∀ k,k<S0.cnt→k≠F→x.st.get k=S0.get k))∧(FM x.st F (NfG cd l j e.J (q.take i)))) ?_ ?_ Zaa
       ·clear g1 g2 g5 g6 g7 g28 g29 g30 kB bB bF hS hF ht bE g8 g9 kE kK;rintro m ⟨env,⟨sto,c⟩⟩ ⟨i,rfl,g1,g2,g5,g6,g7,g8,g9,g28,g29,g30,g56,g57,g58,hi,hcn,fr,hF⟩;try simp only at g1 g2 g5 g6 g7 g8 g9 g28 g29 g30 g56 g57 g58 hcn fr hF
        have zB:=fun n'=>show St.get ⟨sto,n'⟩ B=_ from(fr B Zaa Zaa).trans aB;have zE:=fun n'=>show St.get ⟨sto,n'⟩ E=_ from(fr E Zaa Zaa).trans aE;have zK:=fun n'=>show St.get ⟨sto,n'⟩ K=_ from(fr K Zaa Zaa).trans aK;by_cases hiq:i<q.length
        ·rcases aq with⟨_,h0,_⟩|⟨ks,rfl,gks,-,lks⟩
         ·omega
         obtain⟨i0,hi0⟩:∃ i0,q[i]=i0:=⟨_,rfl⟩;have hmem:i0∈NdB cd l j e.J:=(by rw[hq,←hi0];exact List.getElem_mem _);obtain⟨hij,hai,hoi⟩:=Neu hmem;have hna:=Nkt hiq;rw[hi0]at hna;have hnl:=Nix q;have hne:=lS e.J ks (by rw[hsv];simp[keyOf]);have zs:=fun n'=>show St.get ⟨sto,n'⟩ ks=_ from(fr ks Zaa Zaa).trans gks;have hi0l:i0<l.length:=Nat.lt_trans hij hjl;obtain⟨y,hy⟩:∃ y,l[i0]=y:=⟨_,rfl⟩;have hldy:=fun st=>Ndl (st:=st) hi0l;simp only[hy]at hldy;have hgy:l.getD i0 etZ=y:=(by rw[NdL hi0l,hy]);have ki:=Nf1 (cd:=cd) (l:=l) (n:=l.length) (i:=i0) hi0l;have kj:=Nf1 (cd:=cd) (l:=l) (n:=l.length) (i:=j) hjl;have kl:((Nbo cd l l.length).map clP).length=l.length:=(by simp[Nbo]);have ti:thL l i0=y.T:=(by unfold thL;rw[hgy]);have tj:thL l j=e.T:=(by unfold thL;rw[hgd]);have ga:Nai cfg (NaI cfg (fuel+6)) 30 [clP (Ndh cd l i0),.i .i64 y.T,clP (Ndh cd l j)]=some (.b (decide (aT (Ndh cd l i0) y.T≤aT (Ndh cd l j) y.T))):=Ngt (fuel:=fuel+4) hc (ti▸(Nde hv i0).1) (Ndr hv _) (Ndr hv _)
         iterate 5
          (try rw[Z0]);(try simp(maxSteps:=9^7)(disch:=first|omega|rfl|assumption)only[↓Yaa,Yab,Nae,Naa,rA,rB,rC,rD,reduceIte,unP,rE,g1,g2,g5,g6,g7,g8,g9,g28,g29,g30,g56,g57,g58,zB,zE,zK,zs,hna,hnl,hldy,hE])
         refine NaF (fun x=>∃ (Y:Nat),x.env.get 1=.fsl l.length (l.flatMap Et.cs)∧x.env.get 2=.ptr B 0∧x.env.get 5=.rsl K 1 0 l.length∧x.env.get 6=.mp S∧x.env.get 7=.mp F∧x.env.get 8=.i .i64 (j:Int)∧x.env.get 9=.ptr E 0∧x.env.get 28=.fsl l.length (l.flatMap Et.cs)∧x.env.get 29=.i .i64 (l.length:Int)∧x.env.get 30=.i .i64 (j:Int)∧x.env.get 56=.rsl ks 1 0 q.length∧x.env.get 57=.i .i64 (q.length:Int)∧x.env.get 58=.i .i64 (i:Int)∧(S0.cnt≤x.st.cnt)∧((∀ k,k<S0.cnt→k≠F→x.st.get k=S0.get k))∧(FM x.st F (NfG cd l j e.J (q.take i)))∧(E<Y)∧Y<x.st.cnt∧x.env.get 11=.i .i64 (i0:Int)∧x.env.get 12=.ptr Y 0∧x.st.get Y=some (.cells [.i .i64 y.T,.i .u8 (y.O.toNat:Int),.i .i64 y.J,.i .i64 y.A,.i .i64 y.B] false)) ?_ ?_
         ·refine⟨c+64,?_,?_,?_,?_,?_,?_,?_,?_,?_,?_,?_,?_,?_,?_,(fun k a b=>by simp(disch:=omega)only[Nap,Naq];exact fr k a b),(hF.same (by simp(disch:=omega)only[Nap,Naq];rfl)),?_,?_,?_,?_,?_⟩<;>first|with_reducible rfl|with_reducible assumption|exact kY _|(simp[Yad,g1,g2,g5,g6,g7,g8,g9,g28,g29,g30,g56,g57,g58]<;>omega)|assumption|rfl|omega|(simp only[Z0L_,Naw];omega)|(simp;omega)|(simp;done)|(simp only;omega)|(simp(disch:=omega)only[Nap,Naq,Yaf];first|done|with_reducible rfl|with_reducible assumption)
         clear g1 g2 g5 g6 g7 g8 g9 g28 g29 g30 g56 g57 g58 hcn fr hF;rintro⟨env,⟨sto,c⟩⟩ ⟨Y,g1,g2,g5,g6,g7,g8,g9,g28,g29,g30,g56,g57,g58,hcn,fr,hF,oY,bY,g11,g12,kY⟩;try simp only at g1 g2 g5 g6 g7 g8 g9 g28 g29 g30 g56 g57 g58 hcn fr hF bY g11 g12
         replace kY:∀ n',St.get ⟨sto,n'⟩ Y=some (.cells [.i .i64 y.T,.i .u8 (y.O.toNat:Int),.i .i64 y.J,.i .i64 y.A,.i .i64 y.B] false):=fun _=>kY;clear zB zE zK zs;have zB:=fun n'=>show St.get ⟨sto,n'⟩ B=_ from(fr B Zaa Zaa).trans aB;have zE:=fun n'=>show St.get ⟨sto,n'⟩ E=_ from(fr E Zaa Zaa).trans aE;have zK:=fun n'=>show St.get ⟨sto,n'⟩ K=_ from(fr K Zaa Zaa).trans aK;obtain⟨es2,f2,kF,mF,oF⟩:=hF;replace kF:∀ n',St.get ⟨sto,n'⟩ F=some (.map es2):=fun _=>kF;have hmF:NaZ 0 (.i .i64 e.J) es2=some (f2 e.J):=mF.get e.J;have hoF:=oF e.J;have htk:q.take (i+1)=q.take i++[i0]:=(by rw[List.take_succ_eq_append_getElem hiq,hi0]);have hrc:rcB cd l i0 j=(!(y.T==e.T)&&(decide (y.O.toNat=23)||decide (e.O.toNat=23))&&!decide (aT (Ndh cd l i0) y.T≤aT (Ndh cd l j) y.T)):=by
          have v23:(y.O==23)=decide (y.O.toNat=23):=by
           rw[Bool.eq_iff_iff];simp only[beq_iff_eq,decide_eq_true_eq];exact⟨fun h=>by rw[h];rfl,fun h=>UInt8.toNat_inj.1 h⟩
          have w23:(e.O==23)=decide (e.O.toNat=23):=by
           rw[Bool.eq_iff_iff];simp only[beq_iff_eq,decide_eq_true_eq];exact u23
          unfold rcB wrB;rw[ti,tj,hgy,hgd,v23,w23]
         have skip:∀ st':St,st'.get F=some (.map es2)→¬ (NfG cd l j e.J (q.take i) e.J=none∧rcB cd l i0 j=true)→FM st' F (NfG cd l j e.J (q.take (i+1))):=fun st' h1 h2=>by
          rw[htk,Nj6 h2];exact⟨es2,f2,h1,mF,oF⟩
         cases hfi:NfG cd l j e.J (q.take i) e.J with
         |some p =>
           rw[hfi]at hoF;simp only[Option.map_some,fsP]at hoF;rw[hoF]at hmF
           iterate 2
            (try rw[Z0]);(try simp(maxSteps:=9^7)(disch:=first|omega|rfl|assumption)only[↓Yaa,Yab,Nae,Naa,rA,rB,rC,rD,reduceIte,unP,rE,g1,g2,g5,g6,g7,g8,g9,g28,g29,g30,g56,g57,g58,g11,g12,kY,zB,zE,zK,hE,kF,hmF,Option.map_some,Option.getD_some,Option.isSome_some])
           exact⟨q.length - (i+1),by omega,i+1,rfl,rfl,by omega,fun k a b=>by simp(disch:=omega)only[Nap,Naq];exact fr k a b,skip _ (by simp(disch:=omega)only[Nap,Naq];exact kF _) (by rw[hfi];simp)⟩
         |none =>
           rw[hfi]at hoF;simp only[Option.map_none]at hoF;rw[hoF]at hmF;by_cases hth:y.T=e.T
           ·have bT:(y.T != e.T)=false:=by rw[hth];simp
            iterate 2
             (try rw[Z0]);(try simp(maxSteps:=9^7)(disch:=first|omega|rfl|assumption)only[↓Yaa,Yab,Nae,Naa,rA,rB,rC,rD,reduceIte,unP,rE,g1,g2,g5,g6,g7,g8,g9,g28,g29,g30,g56,g57,g58,g11,g12,kY,zB,zE,zK,hE,kF,hmF,Option.map_some,Option.getD_none,Option.isSome_none,bT])
            exact⟨q.length - (i+1),by omega,i+1,rfl,rfl,by omega,fun k a b=>by simp(disch:=omega)only[Nap,Naq];exact fr k a b,skip _ (by simp(disch:=omega)only[Nap,Naq];exact kF _) (by rw[hrc,hth];simp)⟩
           have bT:(y.T != e.T)=true:=(by simpa using hth);have nT:(y.T==e.T)=false:=(by simpa using hth);obtain⟨es3,hp3,mF3⟩:=MK.put Nb6 e.J (fsP e.J (i0,j)) mF;have hp:Nbf 0 (.i .i64 e.J) (.agg [.i .i64 e.J,.i .i64 (i0:Int),.i .i64 (j:Int)]) es2=some es3:=hp3;have put:rcB cd l i0 j=true→∀ st':St,st'.get F=some (.map es3)→FM st' F (NfG cd l j e.J (q.take (i+1))):=fun h2 st' h1=>by
            refine⟨es3,_,h1,mF3,fun o=>?_⟩;rw[htk,Njb];by_cases ho:o=e.J
            ·subst ho;rw[if_pos rfl,if_pos ⟨rfl,hfi,h2⟩];rfl
            ·rw[if_neg ho,if_neg (fun c=>ho c.1)];exact oF o
           by_cases h1:y.O.toNat=23
           ·have e1:((y.O.toNat:Int)==((23:Nat):Int))=true:=by rw[h1];rfl
            iterate 2
             (try rw[Z0]);(try simp(maxSteps:=9^7)(disch:=first|omega|rfl|assumption)only[↓Yaa,Yab,Nae,Naa,rA,rB,rC,rD,reduceIte,unP,rE,g1,g2,g5,g6,g7,g8,g9,g28,g29,g30,g56,g57,g58,g11,g12,kY,zB,zE,zK,hE,kF,hmF,Option.map_some,Option.getD_none,Option.isSome_none,bT,e1,ki,kj,kl])
            refine Nbz (NbE rfl) ga rfl rfl ?_;cases hah:decide (aT (Ndh cd l i0) y.T≤aT (Ndh cd l j) y.T)with
            |true =>
              iterate 3
               (try rw[Z0]);(try simp(maxSteps:=9^7)(disch:=first|omega|rfl|assumption)only[↓Yaa,Yab,Nae,Naa,rA,rB,rC,rD,reduceIte,unP,rE,g1,g2,g5,g6,g7,g8,g9,g28,g29,g30,g56,g57,g58,g11,g12,kY])
              exact⟨q.length - (i+1),by omega,i+1,rfl,rfl,by omega,fun k a b=>by simp(disch:=omega)only[Nap,Naq];exact fr k a b,skip _ (by simp(disch:=omega)only[Nap,Naq];exact kF _) (by rw[hrc,hah];simp)⟩
            |false =>
              iterate 3
               (try rw[Z0]);(try simp(maxSteps:=9^7)(disch:=first|omega|rfl|assumption)only[↓Yaa,Yab,Nae,Naa,rA,rB,rC,rD,reduceIte,unP,rE,g1,g2,g5,g6,g7,g8,g9,g28,g29,g30,g56,g57,g58,g11,g12,kY,zE,kF,hp,Option.map_some])
              exact⟨q.length - (i+1),by omega,i+1,rfl,rfl,by omega,fun k a b=>by simp(disch:=omega)only[Nap,Naq];exact fr k a b,put (by rw[hrc,nT,hah,decide_eq_true h1];simp) _ (by first|exact Yaf _ _ _|(simp(disch:=omega)only[Nap,Naq];rw[Yaf]))⟩
           have e1:((y.O.toNat:Int)==((23:Nat):Int))=false:=(by simp;omega);by_cases h2:e.O.toNat=23
           ·have e2:((e.O.toNat:Int)==((23:Nat):Int))=true:=by rw[h2];rfl
            iterate 2
             (try rw[Z0]);(try simp(maxSteps:=9^7)(disch:=first|omega|rfl|assumption)only[↓Yaa,Yab,Nae,Naa,rA,rB,rC,rD,reduceIte,unP,rE,g1,g2,g5,g6,g7,g8,g9,g28,g29,g30,g56,g57,g58,g11,g12,kY,zB,zE,zK,hE,kF,hmF,Option.map_some,Option.getD_none,Option.isSome_none,bT,e1,e2,ki,kj,kl])
            refine Nbz (NbE rfl) ga rfl rfl ?_;cases hah:decide (aT (Ndh cd l i0) y.T≤aT (Ndh cd l j) y.T)with
            |true =>
              iterate 3
               (try rw[Z0]);(try simp(maxSteps:=9^7)(disch:=first|omega|rfl|assumption)only[↓Yaa,Yab,Nae,Naa,rA,rB,rC,rD,reduceIte,unP,rE,g1,g2,g5,g6,g7,g8,g9,g28,g29,g30,g56,g57,g58,g11,g12,kY])
              exact⟨q.length - (i+1),by omega,i+1,rfl,rfl,by omega,fun k a b=>by simp(disch:=omega)only[Nap,Naq];exact fr k a b,skip _ (by simp(disch:=omega)only[Nap,Naq];exact kF _) (by rw[hrc,hah];simp)⟩
            |false =>
              iterate 3
               (try rw[Z0]);(try simp(maxSteps:=9^7)(disch:=first|omega|rfl|assumption)only[↓Yaa,Yab,Nae,Naa,rA,rB,rC,rD,reduceIte,unP,rE,g1,g2,g5,g6,g7,g8,g9,g28,g29,g30,g56,g57,g58,g11,g12,kY,zE,kF,hp,Option.map_some])
              exact⟨q.length - (i+1),by omega,i+1,rfl,rfl,by omega,fun k a b=>by simp(disch:=omega)only[Nap,Naq];exact fr k a b,put (by rw[hrc,nT,hah,decide_eq_true h2];simp) _ (by first|exact Yaf _ _ _|(simp(disch:=omega)only[Nap,Naq];rw[Yaf]))⟩
           have e2:((e.O.toNat:Int)==((23:Nat):Int))=false:=by simp;omega
           iterate 2
            (try rw[Z0]);(try simp(maxSteps:=9^7)(disch:=first|omega|rfl|assumption)only[↓Yaa,Yab,Nae,Naa,rA,rB,rC,rD,reduceIte,unP,rE,g1,g2,g5,g6,g7,g8,g9,g28,g29,g30,g56,g57,g58,g11,g12,kY,zB,zE,zK,hE,kF,hmF,Option.map_some,Option.getD_none,Option.isSome_none,bT,e1,e2])
           exact⟨q.length - (i+1),by omega,i+1,rfl,rfl,by omega,fun k a b=>by simp(disch:=omega)only[Nap,Naq];exact fr k a b,skip _ (by simp(disch:=omega)only[Nap,Naq];exact kF _) (by rw[hrc,decide_eq_false h1,decide_eq_false h2];simp)⟩
        ·skip
         iterate 4
          (try rw[Z0]);(try simp(maxSteps:=9^7)(disch:=first|omega|rfl|assumption)only[↓Yaa,Yab,Nae,Naa,rA,rB,rC,rD,reduceIte,unP,rE,g1,g2,g5,g6,g7,g8,g9,g28,g29,g30,g56,g57,g58])
         intro ht2;have hall:=Nl4 hac hju;rw[hq]at hall;have hqi:q.take i=q:=List.take_of_length_le Zaa;refine hK3 _ ⟨?_,?_,?_,?_,?_,?_,?_,?_,(zB _),?_,?_,(aS.move Zad (fr S Zaa Zaa) (fun k a b _=>fr k b Zaa)),(by rw[←hall,←hqi];exact hF.same rfl),ht2,?_,?_,?_,(zE _),(zK _)⟩<;>first|with_reducible rfl|with_reducible assumption|(simp[Yad,g1,g2,g5,g6,g7,g8,g9,g28,g29,g30,g56,g57,g58]<;>omega)|omega|(simp only[Z0L_,Naw];omega)|(simp only;omega)
       ·skip
        refine⟨0,rfl,?_,?_,?_,?_,?_,?_,?_,?_,?_,?_,?_,?_,?_,?_,(by rw[cS];show c≤c+48;omega),(fun k _ _=>by rw[←hS0];rfl),(by rw[List.take_zero,Nj7];exact hF.same rfl)⟩<;>first|with_reducible rfl|with_reducible assumption|(simp[Yad,g1,g2,g5,g6,g7,g28,g29,g30,g8,g9]<;>omega)|assumption|rfl|omega|(simp only[Z0L_,Naw];omega)|(simp;omega)|(simp;done)
      clear g1 g2 g5 g6 g7 g28 g29 g30 kB bB bF hS hF ht bE g8 g9 kE kK;rintro⟨env,⟨sto,c⟩⟩ ⟨g1,g2,g5,g6,g7,g28,g29,g30,kB,bB,bF,hS,hF,ht,bE,g8,g9,kE,kK⟩;try simp only at g1 g2 g5 g6 g7 g28 g29 g30 bB bF hS hF ht bE g8 g9
      replace kB:∀ n',St.get ⟨sto,n'⟩ B=some (.cells [slV cd.zo cd.O.length (cd.O.flatMap Dc.cs),slV cd.zt cd.T.length (cd.T.flatMap Tx.cs)] false):=fun _=>kB;replace kE:∀ n',St.get ⟨sto,n'⟩ E=some (.cells [.i .i64 e.T,.i .u8 (e.O.toNat:Int),.i .i64 e.J,.i .i64 e.A,.i .i64 e.B] false):=fun _=>kE;replace kK:∀ n',St.get ⟨sto,n'⟩ K=some (.cells ((Nbo cd l l.length).map clP) false):=fun _=>kK;obtain⟨es',f',qS',mS',oS'',lS',dS'⟩:=hS;obtain⟨sv',hsv'⟩:∃ sv',(f' e.J).getD .nsl=sv':=⟨_,rfl⟩;have own':=oS'' e.J;rw[hsv',hq]at own';have hmt':NaZ 0 (.i .i64 e.J) es'=some (f' e.J):=mS'.get e.J;have kS':∀ n',St.get ⟨sto,n'⟩ S=some (.map es'):=fun _=>qS';have lk':∀ k,k∈keyOf sv'→F+1≤k:=fun k hk=>lS' e.J k (by rw[hsv'];exact hk);have nE:E∉keyOf sv':=fun h=>by
       rcases own' with⟨rfl,_⟩|⟨ks,rfl,gks,hks,_⟩
       ·simp[keyOf]at h
       ·simp only[keyOf,List.mem_singleton]at h;subst h;rw[kE]at gks;simp only[Sj,PObj.cells.injEq,and_true]at gks;have:=congrArg (fun a=>a[1]?) gks;simp only[List.getElem?_cons_succ,List.getElem?_cons_zero,List.getElem?_map]at this;cases h:q[1]? with
        |none=>rw[h]at this;cases this
        |some v=>rw[h]at this;simp[Niw]at this
      refine Ney (NcM hok _) (NcX hok _).2 (S::keyOf sv') (by rfl) (ns:=[true,true,true,false,false,false,false,false,false,false,false]) (by rfl) ht ?_;have kn:∀ d,c+d∉S::keyOf sv':=fun d h=>by
       rcases List.mem_cons.1 h with h|h
       ·omega
       ·have:=own'.lt _ h;simp only at this;omega
      have kn0:c∉S::keyOf sv':=kn 0;have hnn:∀ d n',St.get ⟨sto,n'⟩ (c+d)=none:=fun d _=>ht (c+d) Zad;have hnn0:∀ n',St.get ⟨sto,n'⟩ c=none:=fun n'=>hnn 0 n';have nES:E∉S::keyOf sv':=fun h=>by
       rcases List.mem_cons.1 h with h|h
       ·omega
       ·exact nE h
      (first|rw[Nax]|rw[Nar]);(try simp(maxSteps:=9^7)(disch:=first|omega|rfl|assumption)only[↓Yaa,Yac,Nae,Naa,rA,rB,rC,rD,reduceIte,unP,Xl,rE,NaR,NaL,NaN,Nam,Naj,Nao,Nan,g6,g9,g8,kE,kS',hmt',Option.map_some,hsv',NbR,NbS]);(first|rw[Nax]|rw[Nar]);(try simp(maxSteps:=9^7)(disch:=first|omega|rfl|assumption)only[↓Yaa,Yac,Nae,Naa,rA,rB,rC,rD,reduceIte,unP,Xl,rE,NaR,NaL,NaN,Nam,Naj,Nao,Nan,g6,g9,g8,kE,kS',hmt',Option.map_some,hsv',NbR,NbS]);(first|rw[Nax]|rw[Nar]);(try simp(maxSteps:=9^7)(disch:=first|omega|rfl|assumption)only[↓Yaa,Yac,Nae,Naa,rA,rB,rC,rD,reduceIte,unP,Xl,rE,NaR,NaL,NaN,Nam,Naj,Nao,Nan,g6,g9,g8,kE,kS',hmt',Option.map_some,hsv',NbR,NbS]);refine⟨by rw[NaN _ _ _ _ _ _ _ rfl rfl];exact kn0,Na7 rfl (Nk6 _) (hnn0 _),by rw[NaN _ _ _ _ _ _ _ rfl rfl];exact kn 8,Na7 rfl (Ngl _ _) (hnn 8 _),⟨kn 16,fun _ k o h=>by cases h;exact⟨by omega,nES⟩⟩,Na7 rfl (Nk5 _ _) (hnn 16 _),?_⟩;(first|rw[Nax]|rw[Nar]);(try simp(maxSteps:=9^7)(disch:=first|omega|rfl|assumption)only[↓Yaa,Yac,Nae,Naa,rA,rB,rC,rD,reduceIte,unP,Xl,rE,NaR,NaL,NaN,Nam,Naj,Nao,Nan,g6,g9,g8,kE,kS',hmt',Option.map_some,hsv',NbR,NbS]);(first|rw[Nax]|rw[Nar]);(try simp(maxSteps:=9^7)(disch:=first|omega|rfl|assumption)only[↓Yaa,Yac,Nae,Naa,rA,rB,rC,rD,reduceIte,unP,Xl,rE,NaR,NaL,NaN,Nam,Naj,Nao,Nan,g6,g9,g8,kE,kS',hmt',Option.map_some,hsv',NbR,NbS]);(first|rw[Nax]|rw[Nar]);(try simp(maxSteps:=9^7)(disch:=first|omega|rfl|assumption)only[↓Yaa,Yac,Nae,Naa,rA,rB,rC,rD,reduceIte,unP,Xl,rE,NaR,NaL,NaN,Nam,Naj,Nao,Nan,g6,g9,g8,kE,kS',hmt',Option.map_some,hsv',NbR,NbS]);(first|rw[Nax]|rw[Nar]);(try simp(maxSteps:=9^7)(disch:=first|omega|rfl|assumption)only[↓Yaa,Yac,Nae,Naa,rA,rB,rC,rD,reduceIte,unP,Xl,rE,NaR,NaL,NaN,Nam,Naj,Nao,Nan,g6,g9,g8,kE,kS',hmt',Option.map_some,hsv',NbR,NbS]);refine⟨Nbu (kn 24),NaD rfl,Nbu (kn 32),NaD rfl,⟨kn 40,nofun⟩,NaD rfl,Nbu (kn 48),NaD rfl,?_⟩;(first|rw[Nax]|rw[Nar]);(try simp(maxSteps:=9^7)(disch:=first|omega|rfl|assumption)only[↓Yaa,Yac,Nae,Naa,rA,rB,rC,rD,reduceIte,unP,Xl,rE,NaR,NaL,NaN,Nam,Naj,Nao,Nan,g6,g9,g8,kE,kS',hmt',Option.map_some,hsv',NbR,NbS]);(first|rw[Nax]|rw[Nar]);(try simp(maxSteps:=9^7)(disch:=first|omega|rfl|assumption)only[↓Yaa,Yac,Nae,Naa,rA,rB,rC,rD,reduceIte,unP,Xl,rE,NaR,NaL,NaN,Nam,Naj,Nao,Nan,g6,g9,g8,kE,kS',hmt',Option.map_some,hsv',NbR,NbS]);refine⟨Nbu (kn 56),NaD rfl,Nbu (kn 64),NaD rfl,?_⟩;(first|rw[Nax]|rw[Nar]);(try simp(maxSteps:=9^7)(disch:=first|omega|rfl|assumption)only[↓Yaa,Yac,Nae,Naa,rA,rB,rC,rD,reduceIte,unP,Xl,rE,NaR,NaL,NaN,Nam,Naj,Nao,Nan,NaA]);have lt':∀ k,k∈keyOf sv'→k<c:=fun k hk=>own'.lt k hk;refine⟨by rw[NaL _ _ _ _ _ _ _ rfl];trivial,?_⟩;refine Nch (own'.move (by simp only[Z0L_];omega) fun k hk _=>by have:=lt' k hk;simp(disch:=omega)only[Naq];rfl) (by simp only[Z0L_];omega) (fun h=>by have:=lt' _ h;omega) rfl Zaa (by unfold NaY;omega) ?_;intro v' st' hown hcnt hkey hj;simp only[Z0L_]at hcnt;have pz:∀ k,k≠c+64→k≠c+72→k∉keyOf sv'→st'.get k=St.get ⟨sto,c⟩ k:=fun k a b d=>(hj k b d).trans (by rw[Yae (Ne.symm a)];rfl);have nS:S∉keyOf sv':=fun h=>by have:=lk' S h;omega
      have nF:F∉keyOf sv':=fun h=>by have:=lk' F h;omega
      have nB:B∉keyOf sv':=fun h=>by have:=lk' B h;omega
      have nK:K∉keyOf sv':=fun h=>by have:=lk' K h;omega
      obtain⟨es4,hp4,mS4⟩:=MK.put Nb6 e.J v' mS';have hp:Nbf 0 (.i .i64 e.J) v' es'=some es4:=hp4;have gS:st'.get S=some (.map es'):=(pz S Zaa Zaa nS).trans qS';refine⟨by rw[Naj _ _ _ _ _ _ _ rfl];exact fun k a b=>hj k a fun h=>b (List.mem_cons_of_mem _ h),?_⟩;(first|rw[Nax]|rw[Nar]);(try simp(maxSteps:=9^7)(disch:=first|omega|rfl|assumption)only[↓Yaa,Yac,Nae,Naa,rA,rB,rC,rD,reduceIte,unP,Xl,rE,NaR,NaL,NaN,Nam,Naj,Nao,Nan,gS,hp,Option.map_some]);refine⟨by rw[NaL _ _ _ _ _ _ _ rfl];trivial,by rw[Naj _ _ _ _ _ _ _ rfl];exact fun k a b=>Yae fun h=>b (by rw[←h];exact List.mem_cons_self),?_⟩;rw[NfU];simp(disch:=first|omega|rfl|assumption)only[↓Yaa,Yac,Nae,Naa,rA,rB,rC,rD,reduceIte,unP,Xm,rE,g1,g2,g5,g6,g7,g28,g29,g30];intro ht2;have qz:∀ k n',k≠S→St.get ⟨(St.put st' S (some (.map es4))).sto,n'⟩ k=st'.get k:=fun k n' hk=>by
       show St.get (St.put st' S _) k=_;exact Yae (Ne.symm hk)
      refine⟨l.length - (j+1),by omega,j+1,rfl,(Nay hjl).symm,(Nay hjl).symm,rfl,?_,by omega,fun _=>?_,?_,?_,ht2⟩
      ·rw[pz B Zaa Zaa nB];exact kB _
      ·rw[pz K Zaa Zaa nK];exact kK _
      ·refine⟨es4,_,by show St.get (St.put st' S _) S=_;rw[Yaf],mS4,fun o=>?_,fun o k hk=>?_,fun o o' k hne hk hk'=>?_⟩
       ·by_cases ho:o=e.J
        ·subst ho;rw[if_pos rfl,NoI hac hju,hq,List.length_append,List.map_append];exact hown.move (by simp only[Z0L_];omega) fun k hk _=>qz k _ (fun h=>by have:=hkey k hk;omega)
        ·rw[if_neg ho,Njq (fun h=>ho (h.symm.trans hju))];refine(oS'' o).move (by simp only[Z0L_];omega) fun k hk hlt=>?_;have h1:=lS' o k hk;simp only at hlt;rw[qz k _ Zaa];exact pz k Zaa Zaa (fun h=>dS' o e.J k ho hk (by rw[hsv'];exact h))
       ·by_cases ho:o=e.J
        ·rw[if_pos ho]at hk;have:=hkey k hk;omega
        ·rw[if_neg ho]at hk;exact lS' o k hk
       ·have hlt:=fun o k hk=>(oS'' o).lt k hk;simp only at hlt;by_cases ho:o=e.J
        ·by_cases ho':o'=e.J
         ·exact hne (ho.trans ho'.symm)
         ·rw[if_pos ho]at hk;rw[if_neg ho']at hk';have:=hkey k hk;have:=hlt o' k hk';omega
        ·rw[if_neg ho]at hk;by_cases ho':o'=e.J
         ·rw[if_pos ho']at hk';have:=hkey k hk';have:=hlt o k hk;omega
         ·rw[if_neg ho']at hk';exact dS' o o' k hne hk hk'
      ·exact hF.same (by rw[qz F _ (by omega),pz F (by omega) (by omega) nF])
     ·have hjn:j=l.length:=(by omega);subst hjn
      iterate 4
       (try rw[Z0]);(try simp(maxSteps:=9^7)(disch:=first|omega|rfl|assumption)only[↓Yaa,Yab,Nae,Naa,rA,rB,rC,rD,reduceIte,unP,rE,g1,g2,g5,g6,g7,g28,g29,g30,kB])
      intro ht2;refine hK1 _ ⟨?_,?_,?_,?_,(hF.same rfl)⟩<;>first|with_reducible rfl|with_reducible assumption|exact kB _|(simp[Yad,g1,g2,g5,g6,g7,g28,g29,g30]<;>omega)|omega|(simp only[Z0L_,Naw];omega)|(simp only;omega)|(simp(disch:=omega)only[Nap,Naq,Yaf,kB];first|done|with_reducible rfl|with_reducible assumption)
    ·skip
     refine⟨0,rfl,?_,?_,?_,?_,?_,(by simp[Yad,g1]),Zaf,Zaf,?_,?_,?_,?_,(fun h=>hK h),(hS.move Zad rfl (fun _ _ _ _=>rfl)),(hF.same rfl),(ht.le Zaa)⟩<;>first|with_reducible rfl|with_reducible assumption|exact kB _|(simp[Yad,g1,g2,g5,g6,g7]<;>omega)|(simp(disch:=omega)only[Nap,Naq,Yaf,kB];first|done|with_reducible rfl|with_reducible assumption)|omega|(simp only[Z0L_,Naw];omega)|(simp only;omega)|assumption|rfl|(simp;omega)|(simp;done)
   clear bB g1 g2 kB ht bK bS bF g5 g6 g7 hK hS hF;rintro⟨env,⟨sto,c⟩⟩ ⟨g2,g7,bF,kB,hF⟩;try simp only at g2 g7 bF hF
   replace kB:∀ n',St.get ⟨sto,n'⟩ B=some (.cells [slV cd.zo cd.O.length (cd.O.flatMap Dc.cs),slV cd.zt cd.T.length (cd.T.flatMap Tx.cs)] false):=fun _=>kB;have lD:=NaG cd.zo cd.O.length (cd.O.flatMap Dc.cs);have hRN:Nhk cd l cd.O.length=R:=by rw[←hR,if_pos rfl]
   iterate 4
    (try rw[Z0]);(try simp(maxSteps:=9^7)(disch:=first|omega|rfl|assumption)only[↓Yaa,Yab,Nae,Naa,rA,rB,rC,rD,reduceIte,unP,rE,g2,g7,kB,lD])
   refine Z9 (k:=cd.O.length - 0) (fun m x=>∃ (i:Nat) (ov:PV),m=cd.O.length - i∧x.env.get 7=.mp F∧x.env.get 15=ov∧x.env.get 128=.i .i64 (cd.O.length:Int)∧x.env.get 129=.i .i64 (i:Int)∧F<x.st.cnt∧(i≤cd.O.length)∧(FM x.st F (Ngo cd l l.length))∧(Own x.st 3 ov (Nhk cd l i).length ((Nhk cd l i).flatMap rcC))∧((Nhk cd l i=[]→ov=.nsl))) ?_ ?_ Zaa
   ·clear g2 g7 bF kB hF;rintro m ⟨env,⟨sto,c⟩⟩ ⟨i,ov,rfl,g7,g15,g128,g129,bF,hi,hF,ho,hz⟩;try simp only at g7 g15 g128 g129 bF hF ho
    by_cases hil:i<cd.O.length
    ·obtain⟨es2,f2,kF,mF,oF⟩:=id hF;replace kF:∀ n',St.get ⟨sto,n'⟩ F=some (.map es2):=fun _=>kF;have hmF:NaZ 0 (.i .i64 (i:Int)) es2=some (f2 (i:Int)):=mF.get (i:Int);have hoF:=oF (i:Int);cases hfi:Ngo cd l l.length (i:Int)with
     |none =>
       have hnx:Nhk cd l (i+1)=Nhk cd l i:=(by rw[Ng9,Noz,hfi];simp);rw[hfi]at hoF;simp only[Option.map_none]at hoF;rw[hoF]at hmF
       iterate 6
        (try rw[Z0]);(try simp(maxSteps:=9^7)(disch:=first|omega|rfl|assumption)only[↓Yaa,Yab,Nae,Naa,rA,rB,rC,rD,reduceIte,unP,rE,g7,g15,g128,g129,kF,hmF,Option.getD_none,Option.isSome_none,Option.map_some])
       exact⟨cd.O.length - (i+1),by omega,i+1,ov,rfl,rfl,rfl,by omega,hF.same (by simp(disch:=omega)only[Nap,Naq];rfl),by rw[hnx];exact ho.move (by simp only[Z0L_];omega) fun k hk hlt=>by simp only at hlt;simp(disch:=omega)only[Nap,Naq];rfl,by rw[hnx];exact hz⟩
     |some p =>
       have hnx:Nhk cd l (i+1)=Nhk cd l i++[(i,p.1,p.2)]:=(by rw[Ng9,Noz,hfi];simp);rw[hfi]at hoF;simp only[Option.map_some,fsP]at hoF;rw[hoF]at hmF;have lt':∀ k,k∈keyOf ov→k<c:=fun k hk=>ho.lt k hk;have nF:F∉keyOf ov:=fun h=>by
        rcases ho with⟨rfl,_⟩|⟨k,rfl,hk,_⟩
        ·simp[keyOf]at h
        ·simp only[keyOf,List.mem_singleton]at h;subst h;rw[kF]at hk;cases hk
       iterate 6
        (try rw[Z0]);(try simp(maxSteps:=9^7)(disch:=first|omega|rfl|assumption)only[↓Yaa,Yab,Nae,Naa,rA,rB,rC,rD,reduceIte,unP,rE,g7,g15,g128,g129,kF,hmF,Option.getD_some,Option.isSome_some,Option.map_some,NaA])
       have hNl:=NkU cd l i;have hN6:=h64 hck0;refine Nch (ho.move (by simp only[Z0L_];omega) fun k hk _=>by have:=lt' k hk;simp(disch:=omega)only[Nap,Naq];rfl) (by simp only[Z0L_];omega) (fun h=>by have:=lt' _ h;omega) rfl Zaa (by unfold NaY;omega) ?_;intro v' st' hown hcnt hkey hj;simp only[Z0L_]at hcnt;refine⟨cd.O.length - (i+1),by omega,i+1,v',rfl,rfl,rfl,by omega,by omega,hF.same ?_,?_,fun h=>?_⟩
       ·show st'.get F=_;rw[hj F Zaa nF];simp(disch:=omega)only[Nap,Naq];rfl
       ·rw[hnx,List.length_append,List.flatMap_append];exact hown.move Zad fun _ _ _=>rfl
       ·rw[hnx]at h;simp at h
    ·have hin:i=cd.O.length:=(by omega);subst hin
     iterate 5
      (try rw[Z0]);(try simp(maxSteps:=9^7)(disch:=first|omega|rfl|assumption)only[↓Yaa,Yab,Nae,Naa,rA,rB,rC,rD,reduceIte,unP,rE,g7,g15,g128,g129])
     intro _;refine⟨nofun,_,rfl,?_⟩;simp only[NaC,Yad,if_true];rw[←hRN];exact NlE (ho.move Zad fun _ _ _=>rfl) hz
   ·skip
    refine⟨0,.nsl,rfl,?_,?_,?_,?_,?_,?_,(hF.same rfl),(Own.nil _ _),(fun _=>rfl)⟩<;>first|with_reducible rfl|with_reducible assumption|(simp[Yad,g2,g7]<;>omega)|omega|(simp only[Z0L_,Naw];omega)|(simp only;omega)|assumption|rfl|(simp;omega)|(simp;done)
theorem NiO:Top { sto:=.leaf,cnt:=1 }:=fun _ _=>rfl
theorem NkV{Gl:Gmap}(hok:CfgOK Go.Proofs.Tryz.prog Gl cfg)(hc:CfgA cfg){ck:Int}(hck:Nai cfg (NaI cfg (fuel+5)) 47 [.agg (Cd.cs cd)]=some (.i .i64 ck))(hl:l.length+6≤fuel)(hl2:l.length<1000)(hOf:cd.O.length+6≤fuel)(hO:cd.O.length≤reachBytes)(hT:cd.T.length≤reachBytes)(h16:ck=0→cd.T.length≤64)(h64:ck=0→cd.O.length≤64) :
 Nai cfg (NaI cfg (fuel+7)) 14 [.agg (Cd.cs cd),slV z l.length (l.flatMap Et.cs)]=some (NoY (Nnf ck cd l)):=by
 obtain⟨r,st',h1,h2⟩:=Nmx hok hc NiO (z:=z) hck hl hl2 hOf hO hT h16 h64;exact NeL hc.a3 Ncq ⟨r,st',h1,h2⟩
end
end Go.Pe
