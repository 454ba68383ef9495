/-
 EpochKeeps: the law, walked. No condition.
-/
import Derived.Test.YtafdphmhbnjfaaaGreatDoorZPeTbl
import Derived.Test.YtafdphmhbnjfaaaGreatDoorZEpoV
set_option linter.unusedVariables false
set_option linter.unusedSimpArgs false
set_option maxRecDepth 100000
open Nat renaming reduceAdd → rA,reduceMul → rB,reduceLT → rC,reduceEqDiff → rD,reduceLeDiff → rE
namespace Go.Pe
open Go Go.Am Go.RowKit
noncomputable def m3:MFunc:={ body:=.seq (Qi [Qt 3 (.box (.t 0)),Qt 6 (.mv (.c (.b false)))]) (.seq (.seq (Qi [Qw 13 2 3,Ql 14 (.call 7 false [.l 13]),Qh 15 14,Qs 16 (.load true 2 (.t 3)) 15 false,Qs 17 (.mv (.t 1)) 15 false,Qs 18 (.call 8 false [.l 16,.l 17]) 15 false,Qs 19 (.un .not (.l 18)) 15 false,Qt 20 (.pick (.l 15) (.c (.b true)) (.l 19))]) (.cond (.t 20) (.seq (Qi [Ql 21 (.call 9 false []),Qm 6 21]) .ret) .skip)) (.seq (Qi [Qa 22 1,Qa 23 1,Ql 24 (.len (.l 23)),Ql 25 (.min (.l 24) [.c (.i .i64 (.ofNat 50))]),Ql 26 (.slice none 5 (.l 22) none (some (.l 25))),Qm 1 26]) (.seq (.seq (Qi [Qg 27 0 3,Qr 28 27,Qt 29 (.len (.l 28)),Qo 30 0]) (.block 0 (.loop (.seq (Qi [Qt 31 (.bin .lss (.t 30) (.t 29))]) (.seq (.cond (.t 31) .skip (.exit 0)) (.seq (.block 1 (.seq (Qi [Qa 32 30,Qm 7 32]) (.seq (Qi [Qw 33 2 3,Qa 34 1,Qa 35 7,Ql 36 (.call 10 false [.l 33,.l 34,.l 35]),Qt 8 (.alloc [.i .i64 (.ofNat 0),.i .i64 (.ofNat 0),.i .i64 (.ofNat 0),.i .i64 (.ofNat 0),.nsl]),Qn (.store 5 (.t 8) (.l 36))]) (.seq (Qi [Qg 37 2 8,Qr 38 37,Ql 39 (.bin .geq (.l 38) (Qk 0)),Qh 40 39,Qu 41 4 8 40 true,Qv 42 41 40 true,Qs 43 (.len (.l 42)) 40 true,Qs 44 (.bin .gtr (.l 43) (Qk 0)) 40 true,Ql 45 (.pick (.l 40) (.l 44) (.c (.b false))),Qh 46 45,Qu 47 2 8 46 false,Qv 48 47 46 false,Qs 49 (.bin .lss (.l 48) (Qk 0)) 46 false,Qu 50 3 8 46 false,Qv 51 50 46 false,Qs 52 (.bin .eql (.l 51) (Qk 0)) 46 false,Qs 53 (.eqb true (.l 49) (.l 52)) 46 false,Ql 54 (.pick (.l 46) (.c (.b true)) (.l 53)),Qh 55 54,Qu 56 0 8 55 false,Qv 57 56 55 false,Qs 58 (.bin .lss (.l 57) (Qk 0)) 55 false,Qu 59 1 8 55 false,Qv 60 59 55 false,Qs 61 (.bin .eql (.l 60) (Qk 0)) 55 false,Qs 62 (.eqb true (.l 58) (.l 61)) 55 false,Ql 63 (.pick (.l 55) (.c (.b true)) (.l 62)),Qh 64 63,Qu 65 4 8 64 false,Qv 66 65 64 false,Qs 67 (.len (.l 66)) 64 false,Qu 68 1 3 64 false,Qv 69 68 64 false,Qs 70 (.len (.l 69)) 64 false,Qs 71 (.bin .gtr (.l 67) (.l 70)) 64 false,Qt 72 (.pick (.l 64) (.c (.b true)) (.l 71))]) (.cond (.t 72) (.seq (Qi [Qt 6 (.mv (.c (.b false)))]) .ret) .skip))))) (Qi [Ql 73 (.bin .add (.t 30) (Qk 1)),Qm 30 73]))))))) (.seq (Qi [Ql 74 (.call 11 false [.c (.s [118,97,114,32,118,32,48,59,32,116,104,114,101,97,100,32,97,32,123,32,125])]),Qt 9 (.alloc [.nsl,.nsl]),Qn (.store 2 (.t 9) (.l 74))]) (.seq (Qi [Qt 10 (.mv (.c .nsl))]) (.seq (Qi [Ql 75 (.build [.i .i64 (.ofNat 0),.i .i64 (.ofNat 0),.i .i64 (.ofNat 0),.i .i64 (.ofNat 0),.nsl] [(0,1,.c (.i .i64 (.negSucc 0))),(2,1,.c (.i .i64 (.negSucc 0)))]),Qt 11 (.alloc [.i .i64 (.ofNat 0),.i .i64 (.ofNat 0),.i .i64 (.ofNat 0),.i .i64 (.ofNat 0),.nsl]),Qn (.store 5 (.t 11) (.l 75))]) (.seq (.seq (Qi [Qo 12 0]) (.block 2 (.loop (.seq (.seq (Qi [Qa 76 12,Qa 77 2,Ql 78 (.len (.l 77)),Ql 79 (.bin .lss (.l 76) (.l 78)),Qh 80 79,Qs 81 (.mv (.t 12)) 80 true,Qs 82 (.bin .lss (.l 81) (Qk 20)) 80 true,Qt 83 (.pick (.l 80) (.l 82) (.c (.b false)))]) (.cond (.t 83) .skip (.exit 2))) (.seq (.block 3 (.seq (.seq (Qi [Qa 86 2,Qa 87 12,Ql 88 (.indexAddr none 1 (.l 86) (.l 87)),Qt 89 (.load false 1 (.l 88))]) (.cond (.t 89) (.seq (Qi [Qa 90 10,Ql 91 (.build [.i .i64 (.ofNat 0),.i .u8 (.ofNat 0),.i .i64 (.ofNat 0),.i .i64 (.ofNat 0),.i .i64 (.ofNat 0)] [(1,1,.c (.i .u8 (.ofNat 23)))]),Ql 92 (.bslice 1 5 [.i .i64 (.ofNat 0),.i .u8 (.ofNat 0),.i .i64 (.ofNat 0),.i .i64 (.ofNat 0),.i .i64 (.ofNat 0)] [(0,5,.l 91)]),Ql 93 (.append 5 40 (.l 90) (.l 92)),Qm 10 93]) (.seq (Qi [Qa 94 12,Ql 95 (.bin .add (.l 94) (Qk 1)),Ql 96 (.build [.i .i64 (.ofNat 0),.i .i64 (.ofNat 0),.i .i64 (.ofNat 0),.i .i64 (.ofNat 0),.nsl] [(0,1,.c (.i .i64 (.ofNat 0))),(1,1,.l 95),(2,1,.c (.i .i64 (.negSucc 0)))]),Qn (.store 5 (.t 11) (.l 96))]) (.exit 3))) .skip)) (.seq (Qi [Qa 97 10,Ql 98 (.build [.i .i64 (.ofNat 0),.i .u8 (.ofNat 0),.i .i64 (.ofNat 0),.i .i64 (.ofNat 0),.i .i64 (.ofNat 0)] [(1,1,.c (.i .u8 (.ofNat 22)))]),Ql 99 (.bslice 1 5 [.i .i64 (.ofNat 0),.i .u8 (.ofNat 0),.i .i64 (.ofNat 0),.i .i64 (.ofNat 0),.i .i64 (.ofNat 0)] [(0,5,.l 98)]),Ql 100 (.append 5 40 (.l 97) (.l 99)),Qm 10 100]) (Qi [Qa 101 12,Ql 102 (.bin .add (.l 101) (Qk 1)),Qg 103 2 11,Qn (.store 1 (.l 103) (Qk 0)),Qg 104 3 11,Qn (.store 1 (.l 104) (.l 102))])))) (Qi [Qa 84 12,Ql 85 (.bin .add (.l 84) (Qk 1)),Qm 12 85])))))) (.seq (.chain [Qw 105 2 9,Qa 106 10,Ql 107 (.call 10 false [.l 105,.l 106,.c (.i .i64 (.ofNat 0))]),Qw 108 5 11,Ql 109 (.call 12 false [.l 107,.l 108]),Qh 110 109,Qs 111 (.load true 2 (.t 9)) 110 true,Qs 112 (.mv (.t 10)) 110 true,Qs 113 (.call 13 false [.l 111,.l 112]) 110 true,Qs 114 (.len (.l 113)) 110 true,Qs 115 (.bin .eql (.l 114) (Qk 0)) 110 true,Ql 116 (.pick (.l 110) (.l 115) (.c (.b false))),Qh 117 116,Qs 118 (.call 9 false []) 117 true,Ql 119 (.pick (.l 117) (.l 118) (.c (.b false))),Qm 6 119] [0,0,3,0,15,31,63,63,255,511,1023,2047,4095,8191,16383,32767] none) .ret)))))))),res:=[.t 6] }
theorem t3:Qx 3=some m3:=by kernel_rfl
noncomputable def tblX3:List (Nat×MFunc):=(3,m3)::tblL
theorem Nmw:NoL Go.Proofs.Tryz.prog (Nah Go.Proofs.Tryz.prog []) tblX3:=⟨t3,Ngp⟩
end Go.Pe
set_option maxRecDepth 100000
namespace Go.Pe
open Go Go.Am Go.RowKit
section
variable {cd:Cd}{Gl:Gmap}
def cd0:Cd:=⟨false,[⟨9,[118],0,[],1⟩],false,[⟨[97],true,[],true,[]⟩]⟩
def Nfn(b:Bool):Et:=⟨0,if b then 23 else 22,0,0,0⟩
theorem Nes{bs:List Bool}{i:Nat}(h:i<(bs.map Nfn).length):(bs.map Nfn).getD i etZ=Nfn (bs[i]'(by simpa using h)):=by
 rw[List.getD_eq_getElem?_getD,List.getElem?_eq_getElem h,Option.getD_some,List.getElem_map]
theorem Nnb{bs:List Bool}{i:Nat}(h:i<bs.length):wrB (bs.map Nfn) i=bs[i]:=by
 unfold wrB;rw[Nes (by simpa using h)];cases bs[i]<;>rfl
theorem NnZ(bs:List Bool):trV 0 cd0 (bs.map Nfn)=true:=by
 unfold trV;simp only[Bool.and_eq_true,List.all_eq_true];refine⟨rfl,fun e he=>?_⟩;obtain⟨b,-,rfl⟩:=List.mem_map.1 he;rfl
theorem Nl0(bs:List Bool):(Ncv cd0 (bs.map Nfn) (bs.map Nfn).length).1 0=Nbv (wrB (bs.map Nfn)) (bs.map Nfn).length∧∀ o,(Ncv cd0 (bs.map Nfn) (bs.map Nfn).length).2 o=none:=by
 refine Nko (n:=(bs.map Nfn).length) (fun i hi=>?_) (fun i hi=>?_) (fun i hi=>?_) (fun j hj u k hu=>?_) (Nat.le_refl _)
 ·unfold thL;rw[Nes hi];rfl
 ·unfold Nk0;rw[Nes hi];cases bs[i]'(by simpa using hi)<;>rfl
 ·unfold jL;rw[Nes hi];rfl
 ·have h0:thL (bs.map Nfn) j=0:=by unfold thL;rw[Nes hj];rfl
  unfold Ngn;rw[h0];rcases hu with hu|hu
  ·rw[decide_eq_true hu];rfl
  ·rw[decide_eq_true hu];simp
theorem NlZ(bs:List Bool):(Nd9 0 cd0 (bs.map Nfn)).1 0=Nbv (wrB (bs.map Nfn)) bs.length∧Nfu (Nd9 0 cd0 (bs.map Nfn)).2 cd0.O.length=[]:=by
 obtain⟨h1,h2⟩:=Nl0 bs;have hd:Nd9 0 cd0 (bs.map Nfn)=Ncv cd0 (bs.map Nfn) (bs.map Nfn).length:=by unfold Nd9;rw[if_pos (NnZ bs)]
 rw[hd];refine⟨by rw[h1,List.length_map],?_⟩;unfold Nfu;refine List.filterMap_eq_nil_iff.2 fun o _=>?_;unfold Nom;rw[h2];rfl
def NnY:List UInt8:=[118,97,114,32,118,32,48,59,32,116,104,114,101,97,100,32,97,32,123,32,125]
theorem NlY:fvP cfgNx 400 11 [.s NnY]=some (.agg (Cd.cs cd0)):=by kernel_rfl
theorem NnX:fvP cfgNx 400 47 [.agg (Cd.cs cd0)]=some (.i .i64 0):=by kernel_rfl
open Classical in
noncomputable def gMade:List PV→Option PV:=fun args=>if args=[.s NnY]then some (.agg (Cd.cs cd0))else none
open Classical in
noncomputable def NgJ:List PV→Option PV:=fun args=>if args=[.agg (Cd.cs cd0)]then some (.i .i64 0)else none
theorem Nl3(args:List PV)(r:PV)(h:gMade args=some r):∃ fuel,evP cfgNx fuel 11 args=some r:=by
 unfold gMade at h;split at h
 ·rename_i e;simp only[Sj]at h;subst h;subst e;refine⟨400,?_⟩;have:=NlY;rwa[Nif]at this
 ·cases h
theorem Nlh(args:List PV)(r:PV)(h:NgJ args=some r):∃ fuel,evP cfgNx fuel 47 args=some r:=by
 unfold NgJ at h;split at h
 ·rename_i e;simp only[Sj]at h;subst h;subst e;refine⟨400,?_⟩;have:=NnX;rwa[Nif]at this
 ·cases h
def orG(g g':List PV→Option PV):List PV→Option PV:=fun args=>match g args with
 |some r=>some r
 |none=>g' args
theorem Npz{P:Program}{f:FuncId}{g g':List PV→Option PV}(h:NbH P Gl f g)(h':NbH P Gl f g'):NbH P Gl f (orG g g'):=by
 intro args r hr;unfold orG at hr;cases e:g args with
 |some r' =>
   rw[e]at hr;simp only[Sj]at hr;subst hr;exact h args r' e
 |none =>
   rw[e]at hr;exact h' args r hr
noncomputable def NqS(cd:Cd)(hwf:cd.wf):FuncId→Option (List PV→Option PV):=fun f=>if f=9 then some gTrue else if f=47 then some (orG NgJ (gCk cd hwf))else if f=11 then some gMade else Nqx f
theorem Nny{hwf:cd.wf}{m:Int}(hg:Gl 0 0=some (.int .i64 m)):∀ f g,NqS cd hwf f=some g→NbH Go.Proofs.Tryz.prog Gl f g:=by
 intro f g h;unfold NqS at h;split at h
 ·rename_i e;simp only[Sj]at h;subst h;subst e;exact Ngj (NfW hg) NgF
 split at h
 ·rename_i e;simp only[Sj]at h;subst h;subst e;exact Npz (Ngj (NfW hg) Nlh) (Ngj (Nnj hg) (NoZ cd hwf))
 split at h
 ·rename_i e;simp only[Sj]at h;subst h;subst e;exact Ngj (NfW hg) Nl3
 ·exact NjN hg f g h
noncomputable def Nfq(cd:Cd)(hwf:cd.wf):Cfg:={ fn:=fun f=>Ndt f tblX3,ext:=NqS cd hwf }
theorem NhZ{hwf:cd.wf}{m:Int}(hg:Gl 0 0=some (.int .i64 m)):CfgOK Go.Proofs.Tryz.prog Gl (Nfq cd hwf):=NfX Nmw (Nny hg)
theorem Nlf{hwf:cd.wf}(f:FuncId)(m:MFunc)(h:Ndt f tblL=some m):(Nfq cd hwf).fn f=some m:=by
 show Ndt f tblX3=some m;by_cases h6:f=3
 ·subst h6;have h0:Ndt 3 tblL=none:=by kernel_rfl
  rw[h0]at h;cases h
 ·have hb:Nat.beq f 3=false:=by
   cases h:Nat.beq f 3 with
   |false=>rfl
   |true=>exact absurd (Nat.eq_of_beq_eq_true h) h6
  show(Bool.rec (motive:=fun _=>Option MFunc) (Ndt f tblL) (some m3) (Nat.beq f 3))=some m;rw[hb];exact h
theorem cfgL3_g{hwf:cd.wf}:CfgG (Nfq cd hwf) where
 fn:=Nlf
 jn:=by rfl
 tk:=by rfl
 r1:=by rfl
 r2:=by rfl
 r3:=by rfl
 r4:=by rfl
 r5:=by rfl
 r6:=by rfl
 r7:=by rfl
 r8:=by rfl
 a1:=by rfl
 a2:=by rfl
 a3:=by rfl
 n2:=by rfl
 n3:=by rfl
 n4:=by rfl
theorem Nni{hwf:cd.wf}:CfgE (Nfq cd hwf) where
 toCfgA:=cfgL3_g.toCfgA
 e1:=by rfl
 e2:=by rfl
 e3:=by rfl
 e4:=by rfl
 e5:=by rfl
 e6:=by rfl
 e7:=by rfl
 e8:=by rfl
 e9:=by rfl
 f1:=by rfl
 f2:=by rfl
 f3:=by rfl
 f4:=by rfl
 f5:=by rfl
 f6:=by rfl
end
end Go.Pe
set_option maxHeartbeats 8000000
namespace Go.Pe
open Go Go.Am Go.RowKit
theorem Nev{g:List PV→Option PV}{st:St}{key:Nat}{ps ps':List PV}{r:PV}(hd:Nbg st ps=some ps')(hg:g ps'=some r)(hk:keysL st ps=[])(hr:∀ st',NaR st' key r=some (r,st')):Naq g false st key ps=some (r,st):=by
 unfold Naq;simp only[hd,hg,hk,hr];split<;>rfl
theorem Nj5{st:St}{z:Bool}{n:Nat}{a:List PV}{z':Bool}{m:Nat}{b:List PV}{k:Nat}{cs:List PV}{u:Int}:keysL st [.agg [slV z n a,slV z' m b],.fsl k cs,.i .i64 u]=[]:=by
 unfold slV;split<;>split<;>rfl
theorem NjX(l:List Int):lenP (NbN l)=some (.i .i64 (l.length:Int)):=by rw[Ndr];exact NaC _ _ _
theorem Nnd{st:St}{bs:List Bool}{i:Nat}(h:i<bs.length):Nbh st 1 (.fptr ((bs.flatMap fun b=>[PV.b b]).drop i))=some [.b bs[i]]:=by
 have:=Nb0 (st:=st) (f:=fun b=>[PV.b b]) (w:=1) (fun _=>rfl) (l:=bs) h;rw[Nat.mul_one]at this;exact this
theorem Nn2{cd:Cd}(hwf:cd.wf){l:List Et}(hl:l.length≤reachBytes){bs:List Bool}(hbl:bs.length≤reachBytes):∃ fuel,evP (Nfq cd hwf) fuel 3 [.agg (Cd.cs cd),.fsl l.length (l.flatMap Et.cs),.fsl bs.length (bs.flatMap fun b=>[.b b])]=some (.b true):=by
 obtain⟨F,hF,hFl⟩:=NmI cd (l.length+cd.O.length+200);obtain⟨ck,hckr0,hT16,hO64⟩:∃ ck:Int,orG NgJ (gCk cd hwf) [.agg (Cd.cs cd)]=some (.i .i64 ck)∧(ck=0→cd.T.length≤64)∧(ck=0→cd.O.length≤64):=by
  by_cases h:[PV.agg (Cd.cs cd)]=[.agg (Cd.cs cd0)]
  ·refine⟨0,?_,fun _=>?_,fun _=>?_⟩
   ·unfold orG NgJ;rw[if_pos h]
   ·simp only[List.cons.injEq,PV.agg.injEq,and_true]at h;have h1:=congrArg (fun x=>x.map lenP) h;simp[Cd.cs,NaC]at h1;have:=h1.2;have e:cd0.T.length=1:=rfl;omega
   ·simp only[List.cons.injEq,PV.agg.injEq,and_true]at h;have h1:=congrArg (fun x=>x.map lenP) h;simp[Cd.cs,NaC]at h1;have:=h1.1;have e:cd0.O.length=1:=rfl;omega
  ·refine⟨Nqw cd hwf,?_,fun h=>?_,fun h=>?_⟩
   ·unfold orG NgJ;rw[if_neg h];show gCk cd hwf _=_;unfold gCk;rw[if_pos rfl]
   ·have:=(Njz cd hwf h).1.2;omega
   ·have:=(Njz cd hwf h).1.1;omega
 refine⟨(F+50)+1,Nlx rfl rfl (fun _=>rfl) (NaB (by kernel_rfl:(Nfq cd hwf).fn 3=some m3) ?_)⟩;delta m3 Qa Qr Qg Ql Qt Qn Qs Qk Qm Qh Qi Qu Qv Qo Qw;have hc:CfgG (Nfq cd hwf):=cfgL3_g;have hce:CfgE (Nfq cd hwf):=Nni;have hok:=NhZ (cd:=cd) (hwf:=hwf) (Gl:=fun _ _=>some (.int .i64 0)) rfl;obtain⟨cfg,hcfg⟩:∃ cfg,Nfq cd hwf=cfg:=⟨_,rfl⟩;have hxk:cfg.ext 47=some (orG NgJ (gCk cd hwf)):=by rw[←hcfg];rfl
 have hxm:cfg.ext 11=some gMade:=by rw[←hcfg];rfl
 have hxa:cfg.ext 9=some gTrue:=by rw[←hcfg];rfl
 have hxt:cfg.ext 8=none:=by rw[←hcfg];rfl
 have hxs:cfg.ext 12=none:=by rw[←hcfg];rfl
 have hxi:cfg.ext 27=none:=by rw[←hcfg];rfl
 rw[hcfg]at hc hce hok ⊢;have hckr:∀ callE,Nai cfg callE 47 [.agg (Cd.cs cd)]=some (.i .i64 ck):=fun callE=>by rw[Nbp hxk];exact hckr0
 have hck0:∀ callE,Nai cfg callE 47 [.agg (Cd.cs cd0)]=some (.i .i64 0):=fun callE=>by
  rw[Nbp hxk];unfold orG NgJ;rw[if_pos rfl]
 have hmade:∀ callE,Nai cfg callE 11 [.s NnY]=some (.agg (Cd.cs cd0)):=fun callE=>by
  rw[Nbp hxm];unfold gMade;rw[if_pos rfl]
 obtain⟨hwO,hwT,-,-⟩:=id hwf;have hrb:reachBytes=140737488351232:=rfl;have aw:∀ (st:St) (key:Nat),Naq (Nai cfg (NaK cfg (F+50)) 9) false st key []=some (.b true,st):=fun st key=>NaG rfl (by rw[Nbp hxa];rfl) rfl;obtain⟨gb,hgb⟩:=NjU hc (F:=F) (cd:=cd) hwf hF;have gG:∀ (st:St) (key:Nat),Naq (Nai cfg (NaK cfg (F+50)) 7) false st key [.agg [slV cd.zo cd.O.length (cd.O.flatMap Dc.cs),slV cd.zt cd.T.length (cd.T.flatMap Tx.cs)]]=some (.b gb,st):=fun st key=>NaT (Nbf Nbu) hgb rfl rfl;have htr:=Njf (hc.fn _ _ (by kernel_rfl)) hxt (fuel:=F+49) (z:=false) (cd:=cd) (l:=l) Zaa hwO hwT Zaa;rw[Noy]at htr;obtain⟨tb,htb⟩:∃ tb,l.all (etB cd)=tb:=⟨_,rfl⟩;rw[htb]at htr;have gT:∀ (st:St) (key:Nat),Naq (Nai cfg (NaK cfg (F+50)) 8) false st key [.agg [slV cd.zo cd.O.length (cd.O.flatMap Dc.cs),slV cd.zt cd.T.length (cd.T.flatMap Tx.cs)],.fsl l.length (l.flatMap Et.cs)]=some (.b tb,st):=fun st key=>NaT (Na4 Nbu rfl) htr rfl rfl;obtain⟨l',hl'⟩:∃ l',l.take 50=l':=⟨_,rfl⟩;have hlen:l'.length≤50:=by rw[←hl',List.length_take];omega
 have hmin:=Nr4 50 l;have hsl:=Nrq 50 l;rw[hl']at hmin hsl;have hs1:∀ o:Int,_:=fun o=>NiB hok hce (fuel:=F+38) (z:=false) (l:=l') (o:=o) Zaa Zaa hckr hwO hwT hT16;simp only[Noy]at hs1;have hkp:∀ o:Int,_:=fun o=>Nh3 (cd:=cd) (l:=l') (ck:=ck) hT16 o;have hE:=NaM Et.cs_len l;have lT:=NaC cd.zt cd.T.length (cd.T.flatMap Tx.cs);have lO:=NaC cd.zo cd.O.length (cd.O.flatMap Dc.cs);rw[show Cd.cs cd=[slV cd.zo cd.O.length (cd.O.flatMap Dc.cs),slV cd.zt cd.T.length (cd.T.flatMap Tx.cs)]from rfl]at *;simp only[Nao]
 iterate 2
  (try rw[Z0]);(try simp(maxSteps:=9^7)(disch:=first|omega|rfl|assumption)only[↓Yaa,Yab,Nae,Naa,rA,rB,rC,rD,reduceIte,unP,rE,Nag,Naf])
 refine NaJ (fun x=>∃ (A:Nat),A<x.st.cnt∧x.env.get 1=.fsl l.length (l.flatMap Et.cs)∧x.env.get 2=.fsl bs.length (bs.flatMap fun b=>[.b b])∧x.env.get 3=.ptr A 0∧x.st.get A=some (.cells [slV cd.zo cd.O.length (cd.O.flatMap Dc.cs),slV cd.zt cd.T.length (cd.T.flatMap Tx.cs)] false)∧(Top x.st)) ?_ ?_
 ·refine⟨1,?_,Zab,Zab,Zab,?_,(by intro q hq;simp only[Z0L_,Nax]at hq;simp(disch:=omega)only[Nar,Nas];rfl)⟩<;>first|with_reducible rfl|with_reducible assumption|exact kA _|omega|(simp only[Z0L_,Nax];omega)|(simp only;omega)|(simp(disch:=omega)only[Nar,Nas,Yaf];first|done|with_reducible rfl|with_reducible assumption)
 rintro⟨env,⟨sto,c⟩⟩ ⟨A,bA,g1,g2,g3,kA,ht⟩;try simp only at bA g1 g2 g3 ht
 replace kA:∀ n',St.get ⟨sto,n'⟩ A=some (.cells [slV cd.zo cd.O.length (cd.O.flatMap Dc.cs),slV cd.zt cd.T.length (cd.T.flatMap Tx.cs)] false):=fun _=>kA;cases gb with
 |true =>
   iterate 6
    (try rw[Z0]);(try simp(maxSteps:=9^7)(disch:=first|omega|rfl|assumption)only[↓Yaa,Yab,Nae,Naa,rA,rB,rC,rD,reduceIte,unP,rE,g1,g2,g3,kA,gG,aw,Nag,Naf])
   exact⟨nofun,_,rfl,by simp only[NaF,Yad,if_true]⟩
 |false =>
   cases tb with
   |false =>
     iterate 6
      (try rw[Z0]);(try simp(maxSteps:=9^7)(disch:=first|omega|rfl|assumption)only[↓Yaa,Yab,Nae,Naa,rA,rB,rC,rD,reduceIte,unP,rE,g1,g2,g3,kA,gG,gT,aw,Nag,Naf])
     exact⟨nofun,_,rfl,by simp only[NaF,Yad,if_true]⟩
   |true =>
     iterate 2
      (try rw[Z0]);(try simp(maxSteps:=9^7)(disch:=first|omega|rfl|assumption)only[↓Yaa,Yab,Nae,Naa,rA,rB,rC,rD,reduceIte,unP,rE,g1,g2,g3,kA,gG,gT,aw,Nag,Naf,hmin,hsl,lO])
     refine NaJ (fun x=>A<x.st.cnt∧x.env.get 1=.fsl l'.length (l'.flatMap Et.cs)∧x.env.get 2=.fsl bs.length (bs.flatMap fun b=>[.b b])∧x.env.get 3=.ptr A 0∧x.st.get A=some (.cells [slV cd.zo cd.O.length (cd.O.flatMap Dc.cs),slV cd.zt cd.T.length (cd.T.flatMap Tx.cs)] false)∧(Top x.st)) ?_ ?_
     ·refine⟨?_,?_,?_,?_,?_,(ht.le Zaa)⟩<;>first|with_reducible rfl|with_reducible assumption|exact kA _|omega|(simp only[Z0L_,Nax];omega)|(simp only;omega)|(simp[Yad,g1,g2,g3]<;>omega)|(simp(disch:=omega)only[Nar,Nas,Yaf,kA];first|done|with_reducible rfl|with_reducible assumption)
     clear bA g1 g2 g3 kA ht;rintro⟨env,⟨sto,c⟩⟩ ⟨bA,g1,g2,g3,kA,ht⟩;try simp only at bA g1 g2 g3 ht
     replace kA:∀ n',St.get ⟨sto,n'⟩ A=some (.cells [slV cd.zo cd.O.length (cd.O.flatMap Dc.cs),slV cd.zt cd.T.length (cd.T.flatMap Tx.cs)] false):=fun _=>kA;try simp only at bA
     refine NaX (fun x=>A<x.st.cnt∧x.env.get 1=.fsl l'.length (l'.flatMap Et.cs)∧x.env.get 2=.fsl bs.length (bs.flatMap fun b=>[.b b])∧x.env.get 3=.ptr A 0∧x.st.get A=some (.cells [slV cd.zo cd.O.length (cd.O.flatMap Dc.cs),slV cd.zt cd.T.length (cd.T.flatMap Tx.cs)] false)∧(Top x.st)) ?_ ?_
     ·intro K1 hK1
      iterate 2
       (try rw[Z0]);(try simp(maxSteps:=9^7)(disch:=first|omega|rfl|assumption)only[↓Yaa,Yab,Nae,Naa,rA,rB,rC,rD,reduceIte,unP,rE,g1,g2,g3,kA,Nag,Naf,lO])
      refine Z9 (k:=cd.O.length - 0) (fun m x=>∃ (i:Nat),m=cd.O.length - i∧A<x.st.cnt∧x.env.get 1=.fsl l'.length (l'.flatMap Et.cs)∧x.env.get 2=.fsl bs.length (bs.flatMap fun b=>[.b b])∧x.env.get 3=.ptr A 0∧x.st.get A=some (.cells [slV cd.zo cd.O.length (cd.O.flatMap Dc.cs),slV cd.zt cd.T.length (cd.T.flatMap Tx.cs)] false)∧(Top x.st)∧x.env.get 29=.i .i64 (cd.O.length:Int)∧x.env.get 30=.i .i64 (i:Int)∧(i≤cd.O.length)) ?_ ?_ Zaa
      ·clear bA g1 g2 g3 kA ht;rintro m ⟨env,⟨sto,c⟩⟩ ⟨i,rfl,bA,g1,g2,g3,kA,ht,g29,g30,hi⟩;try simp only at bA g1 g2 g3 ht g29 g30
       replace kA:∀ n',St.get ⟨sto,n'⟩ A=some (.cells [slV cd.zo cd.O.length (cd.O.flatMap Dc.cs),slV cd.zt cd.T.length (cd.T.flatMap Tx.cs)] false):=fun _=>kA;try simp only at bA
       by_cases hil:i<cd.O.length
       ·obtain⟨k1,k2,k3,k4,-⟩:=hkp (i:Int);have h1:=hs1 (i:Int);obtain⟨⟨W,wn,R,rn,Rs⟩,hs⟩:∃ s,(Nd9 ck cd l').1 (i:Int)=s:=⟨_,rfl⟩;rw[hs]at k1 k2 k3 k4 h1;simp only[snC]at k1 k2 k3 k4 h1;have gS:∀ (st:St) (key:Nat),Naq (Nai cfg (NaK cfg (F+50)) 10) false st key [.agg [slV cd.zo cd.O.length (cd.O.flatMap Dc.cs),slV cd.zt cd.T.length (cd.T.flatMap Tx.cs)],.fsl l'.length (l'.flatMap Et.cs),.i .i64 (i:Int)]=some (.agg [.i .i64 W,.i .i64 wn,.i .i64 R,.i .i64 rn,NbN Rs],st):=fun st key=>Nev (Ncy Nbu rfl rfl) h1 Nj5 fun _=>rfl;have i1:=NgN Rs;have i2:=NeT Rs;have i3:=NjX Rs;have ek:∀ x:Int,x≠0→(x==((0:Nat):Int))=false:=fun x h=>by simpa using h
        have e0:((0:Int)==((0:Nat):Int))=true:=rfl
        iterate 5
         (try rw[Z0]);(try simp(maxSteps:=9^7)(disch:=first|omega|rfl|assumption)only[↓Yaa,Yab,Nae,Naa,rA,rB,rC,rD,reduceIte,unP,rE,g1,g2,g3,kA,g29,g30,gS,i1,i2])
        refine NaJ (fun x=>∃ (T8:Nat),A<x.st.cnt∧x.env.get 1=.fsl l'.length (l'.flatMap Et.cs)∧x.env.get 2=.fsl bs.length (bs.flatMap fun b=>[.b b])∧x.env.get 3=.ptr A 0∧x.st.get A=some (.cells [slV cd.zo cd.O.length (cd.O.flatMap Dc.cs),slV cd.zt cd.T.length (cd.T.flatMap Tx.cs)] false)∧(Top x.st)∧x.env.get 29=.i .i64 (cd.O.length:Int)∧x.env.get 30=.i .i64 (i:Int)∧(A<T8)∧T8<x.st.cnt∧x.env.get 8=.ptr T8 0∧x.st.get T8=some (.cells [.i .i64 W,.i .i64 wn,.i .i64 R,.i .i64 rn,NbN Rs] false)) ?_ ?_
        ·refine⟨c+56,?_,?_,?_,?_,?_,(by intro u hu;(try simp only[Z0L_,Nax]at hu);(try simp only at hu);simp(disch:=omega)only[Nar,Nas];exact ht u (by simp only;omega)),?_,?_,?_,?_,?_,?_⟩<;>first|with_reducible rfl|with_reducible assumption|exact kA _|exact kT8 _|omega|(simp only[Z0L_,Nax];omega)|(simp only;omega)|(simp[Yad,g1,g2,g3,g29,g30]<;>omega)|(simp(disch:=omega)only[Nar,Nas,Yaf,kA];first|done|with_reducible rfl|with_reducible assumption)|assumption|rfl|(simp;omega)|(simp;done)
        clear bA g1 g2 g3 kA ht g29 g30;rintro⟨env,⟨sto,c⟩⟩ ⟨T8,bA,g1,g2,g3,kA,ht,g29,g30,oT8,bT8,g8,kT8⟩;try simp only at bA g1 g2 g3 ht g29 g30 bT8 g8
        replace kA:∀ n',St.get ⟨sto,n'⟩ A=some (.cells [slV cd.zo cd.O.length (cd.O.flatMap Dc.cs),slV cd.zt cd.T.length (cd.T.flatMap Tx.cs)] false):=fun _=>kA;replace kT8:∀ n',St.get ⟨sto,n'⟩ T8=some (.cells [.i .i64 W,.i .i64 wn,.i .i64 R,.i .i64 rn,NbN Rs] false):=fun _=>kT8;try simp only at bA bT8
        have qT:Nlw true (.b true) (.b true)=some (.b false):=rfl;have qF:Nlw true (.b false) (.b false)=some (.b false):=rfl;try simp only at k4
        by_cases cR:R<0
        ·have r0:=k2.1 cR;try simp only at r0
         by_cases cW:W<0
         ·have w0:=k3.1 cW;try simp only at w0
          subst r0;subst w0
          iterate 6
           (try rw[Z0]);(try simp(maxSteps:=9^7)(disch:=first|omega|rfl|assumption)only[↓Yaa,Yab,Nae,Naa,rA,rB,rC,rD,reduceIte,unP,rE,g1,g2,g3,kA,g29,g30,g8,kT8,i1,i2,i3,lT,Nag,Naf,qT,qF,Option.map_some,e0])
          exact⟨cd.O.length - (i+1),by omega,i+1,rfl,ht.le Zaa,rfl,by omega⟩
         ·have ew:=ek wn fun h=>cW (k3.2 h);subst r0
          iterate 6
           (try rw[Z0]);(try simp(maxSteps:=9^7)(disch:=first|omega|rfl|assumption)only[↓Yaa,Yab,Nae,Naa,rA,rB,rC,rD,reduceIte,unP,rE,g1,g2,g3,kA,g29,g30,g8,kT8,i1,i2,i3,lT,Nag,Naf,qT,qF,Option.map_some,e0,ew])
          exact⟨cd.O.length - (i+1),by omega,i+1,rfl,ht.le Zaa,rfl,by omega⟩
        ·have er:=ek rn fun h=>cR (k2.2 h);have hn:Rs=[]:=Classical.byContradiction fun h=>k1 ⟨by omega,h⟩;subst hn;simp only[List.length_nil]at i3;by_cases cW:W<0
         ·have w0:=k3.1 cW;try simp only at w0
          subst w0
          iterate 6
           (try rw[Z0]);(try simp(maxSteps:=9^7)(disch:=first|omega|rfl|assumption)only[↓Yaa,Yab,Nae,Naa,rA,rB,rC,rD,reduceIte,unP,rE,g1,g2,g3,kA,g29,g30,g8,kT8,i1,i2,i3,lT,Nag,Naf,qT,qF,Option.map_some,e0,er])
          exact⟨cd.O.length - (i+1),by omega,i+1,rfl,ht.le Zaa,rfl,by omega⟩
         ·have ew:=ek wn fun h=>cW (k3.2 h)
          iterate 6
           (try rw[Z0]);(try simp(maxSteps:=9^7)(disch:=first|omega|rfl|assumption)only[↓Yaa,Yab,Nae,Naa,rA,rB,rC,rD,reduceIte,unP,rE,g1,g2,g3,kA,g29,g30,g8,kT8,i1,i2,i3,lT,Nag,Naf,qT,qF,Option.map_some,er,ew])
          exact⟨cd.O.length - (i+1),by omega,i+1,rfl,ht.le Zaa,rfl,by omega⟩
       ·skip
        iterate 5
         (try rw[Z0]);(try simp(maxSteps:=9^7)(disch:=first|omega|rfl|assumption)only[↓Yaa,Yab,Nae,Naa,rA,rB,rC,rD,reduceIte,unP,rE,g1,g2,g3,kA,g29,g30])
        refine hK1 _ ⟨?_,?_,?_,?_,?_,(ht.le Zaa)⟩<;>first|with_reducible rfl|with_reducible assumption|exact kA _|omega|(simp only[Z0L_,Nax];omega)|(simp only;omega)|(simp[Yad,g1,g2,g3,g29,g30]<;>omega)|(simp(disch:=omega)only[Nar,Nas,Yaf,kA];first|done|with_reducible rfl|with_reducible assumption)
      ·skip
       refine⟨0,rfl,?_,?_,?_,?_,?_,(ht.le Zaa),?_,?_,?_⟩<;>first|with_reducible rfl|with_reducible assumption|exact kA _|omega|(simp only[Z0L_,Nax];omega)|(simp only;omega)|(simp[Yad,g1,g2,g3]<;>omega)|(simp(disch:=omega)only[Nar,Nas,Yaf,kA];first|done|with_reducible rfl|with_reducible assumption)|assumption|rfl|(simp;omega)|(simp;done)
     clear bA g1 g2 g3 kA ht;rintro⟨env,⟨sto,c⟩⟩ ⟨bA,g1,g2,g3,kA,ht⟩;try simp only at bA g1 g2 g3 ht
     replace kA:∀ n',St.get ⟨sto,n'⟩ A=some (.cells [slV cd.zo cd.O.length (cd.O.flatMap Dc.cs),slV cd.zt cd.T.length (cd.T.flatMap Tx.cs)] false):=fun _=>kA;try simp only at bA
     have gM:∀ (st:St) (key:Nat),Naq (Nai cfg (NaK cfg (F+50)) 11) false st key [.s [118,97,114,32,118,32,48,59,32,116,104,114,101,97,100,32,97,32,123,32,125]]=some (.agg [slV cd0.zo cd0.O.length (cd0.O.flatMap Dc.cs),slV cd0.zt cd0.T.length (cd0.T.flatMap Tx.cs)],st):=fun st key=>Nev (Nbf rfl) (hmade _) rfl fun _=>rfl;obtain⟨bs',hbs'⟩:∃ bs',bs.take 20=bs':=⟨_,rfl⟩;have hbl':bs'.length≤20∧bs'.length≤bs.length∧(bs'.length=20∨bs'.length=bs.length):=(by rw[←hbs',List.length_take];omega);have hbe:∀ i (h:i<bs'.length),bs'[i]=bs[i]'Zaa:=fun i h=>by simp[←hbs']
     obtain⟨M,hM⟩:∃ M,bs'.map Nfn=M:=⟨_,rfl⟩;have hMl:M.length=bs'.length:=(by rw[←hM,List.length_map]);have hBl:(bs.flatMap fun b=>[PV.b b]).length=bs.length:=by
      have:=NaM (f:=fun b=>[PV.b b]) (w:=1) (fun _=>rfl) bs;rw[Nat.mul_one]at this;exact this
     iterate 3
      (try rw[Z0]);(try simp(maxSteps:=9^7)(disch:=first|omega|rfl|assumption)only[↓Yaa,Yab,Nae,Naa,rA,rB,rC,rD,reduceIte,unP,rE,g1,g2,g3,kA,gM,Nag,Naf])
     refine NaJ (fun x=>∃ (T9:Nat) (T11:Nat),(A<T9)∧T9<x.st.cnt∧(T9<T11)∧T11<x.st.cnt∧x.env.get 2=.fsl bs.length (bs.flatMap fun b=>[PV.b b])∧x.env.get 9=.ptr T9 0∧x.env.get 10=.nsl∧x.env.get 11=.ptr T11 0∧x.st.get T9=some (.cells [slV cd0.zo cd0.O.length (cd0.O.flatMap Dc.cs),slV cd0.zt cd0.T.length (cd0.T.flatMap Tx.cs)] false)∧x.st.get T11=some (.cells [.i .i64 (-((1:Nat):Int)),.i .i64 ((0:Nat):Int),.i .i64 (-((1:Nat):Int)),.i .i64 ((0:Nat):Int),.nsl] false)∧(Top x.st)) ?_ ?_
     ·refine⟨c+8,c+40,?_,?_,?_,?_,?_,?_,?_,?_,?_,?_,(by intro u hu;(try simp only[Z0L_,Nax]at hu);(try simp only at hu);simp(disch:=omega)only[Nar,Nas];exact ht u (by simp only;omega))⟩<;>first|with_reducible rfl|with_reducible assumption|exact kT9 _|exact kT11 _|assumption|rfl|omega|(simp only[Z0L_,Nax];omega)|(simp;omega)|(simp;done)|(simp only;omega)|(simp[Yad,g1,g2,g3]<;>omega)|(simp(disch:=omega)only[Nar,Nas,Yaf,kA];first|done|with_reducible rfl|with_reducible assumption)
     clear bA g1 g2 g3 kA ht;rintro⟨env,⟨sto,c⟩⟩ ⟨T9,T11,oT9,bT9,oT11,bT11,g2,g9,g10,g11,kT9,kT11,ht⟩;try simp only at bT9 bT11 g2 g9 g10 g11 ht
     replace kT9:∀ n',St.get ⟨sto,n'⟩ T9=some (.cells [slV cd0.zo cd0.O.length (cd0.O.flatMap Dc.cs),slV cd0.zt cd0.T.length (cd0.T.flatMap Tx.cs)] false):=fun _=>kT9;replace kT11:∀ n',St.get ⟨sto,n'⟩ T11=some (.cells [.i .i64 (-((1:Nat):Int)),.i .i64 ((0:Nat):Int),.i .i64 (-((1:Nat):Int)),.i .i64 ((0:Nat):Int),.nsl] false):=fun _=>kT11;try simp only at bT9 bT11
     refine NaX (fun x=>∃ (w:PV),T9<x.st.cnt∧T11<x.st.cnt∧x.env.get 2=.fsl bs.length (bs.flatMap fun b=>[PV.b b])∧x.env.get 9=.ptr T9 0∧x.env.get 11=.ptr T11 0∧x.st.get T9=some (.cells [slV cd0.zo cd0.O.length (cd0.O.flatMap Dc.cs),slV cd0.zt cd0.T.length (cd0.T.flatMap Tx.cs)] false)∧x.st.get T11=some (.cells [.i .i64 (Nbv (wrB M) bs'.length).W,.i .i64 (Nbv (wrB M) bs'.length).wn,.i .i64 (Nbv (wrB M) bs'.length).R,.i .i64 (Nbv (wrB M) bs'.length).rn,.nsl] false)∧(Top x.st)∧x.env.get 10=w∧(Own x.st 5 w bs'.length (M.flatMap Et.cs))) ?_ ?_
     ·intro K2 hK2
      iterate 2
       (try rw[Z0]);(try simp(maxSteps:=9^7)(disch:=first|omega|rfl|assumption)only[↓Yaa,Yab,Nae,Naa,rA,rB,rC,rD,reduceIte,unP,rE,g2,g9,g10,g11,kT9,kT11])
      refine Z9 (k:=bs'.length - 0) (fun m x=>∃ (i:Nat) (w:PV),m=bs'.length - i∧x.env.get 2=.fsl bs.length (bs.flatMap fun b=>[PV.b b])∧x.env.get 9=.ptr T9 0∧x.env.get 10=w∧x.env.get 11=.ptr T11 0∧T9<x.st.cnt∧T11<x.st.cnt∧x.st.get T9=some (.cells [slV cd0.zo cd0.O.length (cd0.O.flatMap Dc.cs),slV cd0.zt cd0.T.length (cd0.T.flatMap Tx.cs)] false)∧x.st.get T11=some (.cells [.i .i64 (Nbv (wrB M) i).W,.i .i64 (Nbv (wrB M) i).wn,.i .i64 (Nbv (wrB M) i).R,.i .i64 (Nbv (wrB M) i).rn,.nsl] false)∧x.env.get 12=.i .i64 (i:Int)∧(Top x.st)∧(i≤bs'.length)∧(Own x.st 5 w i ((M.take i).flatMap Et.cs))∧((∀ k,k∈keyOf w→T11<k))) ?_ ?_ Zaa
      ·clear bT9 bT11 g2 g9 g10 g11 kT9 kT11 ht;rintro m ⟨env,⟨sto,c⟩⟩ ⟨i,w,rfl,g2,g9,g10,g11,bT9,bT11,kT9,kT11,g12,ht,hi,ho,hk⟩;try simp only at g2 g9 g10 g11 bT9 bT11 g12 ht ho
       replace kT9:∀ n',St.get ⟨sto,n'⟩ T9=some (.cells [slV cd0.zo cd0.O.length (cd0.O.flatMap Dc.cs),slV cd0.zt cd0.T.length (cd0.T.flatMap Tx.cs)] false):=fun _=>kT9;replace kT11:∀ n',St.get ⟨sto,n'⟩ T11=some (.cells [.i .i64 (Nbv (wrB M) i).W,.i .i64 (Nbv (wrB M) i).wn,.i .i64 (Nbv (wrB M) i).R,.i .i64 (Nbv (wrB M) i).rn,.nsl] false):=fun _=>kT11;try simp only at bT9 bT11
       by_cases hil:i<bs'.length
       ·have hwr:wrB M i=bs'[i]:=(by rw[←hM];exact Nnb hil);rw[hbe i hil]at hwr;have hnx:Nbv (wrB M) (i+1)=if wrB M i=true then⟨0,(i:Int)+1,-1,0,[]⟩else { Nbv (wrB M) i with R:=0,rn:=(i:Int)+1 }:=rfl;have hMi:(M.take (i+1)).flatMap Et.cs=(M.take i).flatMap Et.cs++(Nfn (bs[i]'Zaa)).cs:=by
         rw[List.take_succ_eq_append_getElem Zaa,List.flatMap_append];have:M[i]'Zaa=Nfn (bs[i]'Zaa):=(by simp[←hM,hbe i hil]);rw[this];simp
        have hld:=fun st=>Nnd (st:=st) (bs:=bs) (i:=i) Zaa;have lv:∀ q,q∈keyOf w→q<c:=fun q hq=>ho.lt q hq;have w1:IntKind.i64.wrap ((i:Int)+((1:Nat):Int))=(i:Int)+1:=(by rw[NbI _ ⟨by omega,by omega⟩];rfl);obtain⟨b,hb⟩:∃ b,bs[i]'Zaa=b:=⟨_,rfl⟩;rw[hb]at hwr hMi;simp only[hb]at hld;refine Nfw hok ht ?_;cases b with
        |true =>
          rw[hwr,if_pos rfl]at hnx
          iterate 7
           (try rw[Z0]);(try simp(maxSteps:=9^7)(disch:=first|omega|rfl|assumption)only[↓Yaa,Yab,Nae,Naa,rA,rB,rC,rD,reduceIte,unP,rE,g2,g9,g10,g11,kT9,kT11,g12,hld,hBl,Nay])
          refine Ncw (ho.move (by simp only[Z0L_];omega) fun q hq _=>by have:=lv q hq;simp(disch:=omega)only[Nar,Nas];rfl) (by simp only[Z0L_];omega) (fun h=>by have:=lv _ h;omega) rfl Zaa (by unfold Na0;omega) ?_;rintro v' ⟨sto',c'⟩ hown hcnt hkey hj;simp only[Z0L_]at hcnt;subst hcnt;have pz:∀ q,q<c→q∉keyOf w→∀ n',St.get ⟨sto',n'⟩ q=St.get ⟨sto,c⟩ q:=fun q a b n'=>(hj q Zaa b).trans (by simp(disch:=omega)only[Nar,Nas];rfl);have kT':∀ n',St.get ⟨sto',n'⟩ T11=_:=fun n'=>(pz T11 Zaa (fun h=>by have:=hk T11 h;omega) n').trans (kT11 c)
          iterate 7
           (try rw[Z0]);(try simp(maxSteps:=9^7)(disch:=first|omega|rfl|assumption)only[↓Yaa,Yab,Nae,Naa,rA,rB,rC,rD,reduceIte,unP,rE,g2,g9,g10,g11,kT9,kT11,g12,kT'])
          intro ht2;exact⟨bs'.length - (i+1),by omega,i+1,v',rfl,rfl,(pz T9 Zaa (fun h=>by have:=hk T9 h;omega) _).trans (kT9 c),by rw[hnx];rfl,rfl,ht2,by omega,by
           rw[hMi];exact hown.move (by simp only[Z0L_,Nax];omega) (fun q hq hlt=>by have:=hkey q hq;simp(disch:=omega)only[Nar,Nas];rfl),fun q hq=>by have:=hkey q hq;omega⟩
        |false =>
          rw[hwr,if_neg Zag]at hnx
          iterate 7
           (try rw[Z0]);(try simp(maxSteps:=9^7)(disch:=first|omega|rfl|assumption)only[↓Yaa,Yab,Nae,Naa,rA,rB,rC,rD,reduceIte,unP,rE,g2,g9,g10,g11,kT9,kT11,g12,hld,hBl,Nay])
          refine Ncw (ho.move (by simp only[Z0L_];omega) fun q hq _=>by have:=lv q hq;simp(disch:=omega)only[Nar,Nas];rfl) (by simp only[Z0L_];omega) (fun h=>by have:=lv _ h;omega) rfl Zaa (by unfold Na0;omega) ?_;rintro v' ⟨sto',c'⟩ hown hcnt hkey hj;simp only[Z0L_]at hcnt;subst hcnt;have pz:∀ q,q<c→q∉keyOf w→∀ n',St.get ⟨sto',n'⟩ q=St.get ⟨sto,c⟩ q:=fun q a b n'=>(hj q Zaa b).trans (by simp(disch:=omega)only[Nar,Nas];rfl);have kT':∀ n',St.get ⟨sto',n'⟩ T11=_:=fun n'=>(pz T11 Zaa (fun h=>by have:=hk T11 h;omega) n').trans (kT11 c)
          iterate 7
           (try rw[Z0]);(try simp(maxSteps:=9^7)(disch:=first|omega|rfl|assumption)only[↓Yaa,Yab,Nae,Naa,rA,rB,rC,rD,reduceIte,unP,rE,g2,g9,g10,g11,kT9,kT11,g12,kT'])
          intro ht2;exact⟨bs'.length - (i+1),by omega,i+1,v',rfl,rfl,(pz T9 Zaa (fun h=>by have:=hk T9 h;omega) _).trans (kT9 c),by rw[hnx];rfl,rfl,ht2,by omega,by
           rw[hMi];exact hown.move (by simp only[Z0L_,Nax];omega) (fun q hq hlt=>by have:=hkey q hq;simp(disch:=omega)only[Nar,Nas];rfl),fun q hq=>by have:=hkey q hq;omega⟩
       ·skip
        obtain rfl:i=bs'.length:=by omega
        rw[List.take_of_length_le Zaa]at ho;by_cases h3:bs'.length<bs.length
        ·skip
         iterate 5
          (try rw[Z0]);(try simp(maxSteps:=9^7)(disch:=first|omega|rfl|assumption)only[↓Yaa,Yab,Nae,Naa,rA,rB,rC,rD,reduceIte,unP,rE,g2,g9,g10,g11,kT9,kT11,g12])
         refine hK2 _ ⟨w,?_,?_,?_,?_,?_,?_,?_,(ht.le Zaa),?_,(ho.move Zad fun _ _ _=>rfl)⟩<;>first|with_reducible rfl|with_reducible assumption|exact kT9 _|exact kT11 _|omega|(simp only[Z0L_,Nax];omega)|(simp only;omega)|(simp[Yad,g2,g9,g10,g11,g12]<;>omega)|(simp(disch:=omega)only[Nar,Nas,Yaf,kT9,kT11];first|done|with_reducible rfl|with_reducible assumption)
        ·skip
         iterate 5
          (try rw[Z0]);(try simp(maxSteps:=9^7)(disch:=first|omega|rfl|assumption)only[↓Yaa,Yab,Nae,Naa,rA,rB,rC,rD,reduceIte,unP,rE,g2,g9,g10,g11,kT9,kT11,g12])
         refine hK2 _ ⟨w,?_,?_,?_,?_,?_,?_,?_,(ht.le Zaa),?_,(ho.move Zad fun _ _ _=>rfl)⟩<;>first|with_reducible rfl|with_reducible assumption|exact kT9 _|exact kT11 _|omega|(simp only[Z0L_,Nax];omega)|(simp only;omega)|(simp[Yad,g2,g9,g10,g11,g12]<;>omega)|(simp(disch:=omega)only[Nar,Nas,Yaf,kT9,kT11];first|done|with_reducible rfl|with_reducible assumption)
      ·skip
       refine⟨0,.nsl,rfl,?_,?_,?_,?_,?_,?_,?_,(by exact kT11 _),?_,(ht.le Zaa),?_,(by rw[List.take_zero];exact Own.nil _ _),(fun q h=>by simp[keyOf]at h)⟩<;>first|with_reducible rfl|with_reducible assumption|exact kT9 _|(simp[Yad,g2,g9,g10,g11]<;>omega)|omega|(simp only[Z0L_,Nax];omega)|(simp only;omega)|(simp(disch:=omega)only[Nar,Nas,Yaf,kT9,kT11];first|done|with_reducible rfl|with_reducible assumption)|assumption|rfl|(simp;omega)|(simp;done)
     clear bT9 bT11 g2 g9 g10 g11 kT9 kT11 ht;rintro⟨env,⟨sto,c⟩⟩ ⟨w,bT9,bT11,g2,g9,g11,kT9,kT11,ht,g10,ho⟩;try simp only at bT9 bT11 g2 g9 g11 ht g10 ho
     replace kT9:∀ n',St.get ⟨sto,n'⟩ T9=some (.cells [slV cd0.zo cd0.O.length (cd0.O.flatMap Dc.cs),slV cd0.zt cd0.T.length (cd0.T.flatMap Tx.cs)] false):=fun _=>kT9;replace kT11:∀ n',St.get ⟨sto,n'⟩ T11=some (.cells [.i .i64 (Nbv (wrB M) bs'.length).W,.i .i64 (Nbv (wrB M) bs'.length).wn,.i .i64 (Nbv (wrB M) bs'.length).R,.i .i64 (Nbv (wrB M) bs'.length).rn,.nsl] false):=fun _=>kT11;try simp only at bT9 bT11
     obtain⟨s,hs⟩:∃ s,Nbv (wrB M) bs'.length=s:=⟨_,rfl⟩;have hRs:s.Rs=[]:=(by rw[←hs];exact(Ngq _).1);have hkd:=NlZ bs';rw[hM,hs]at hkd;obtain⟨hk1,hk2⟩:=hkd;simp only[hs]at kT11;obtain⟨z,dz⟩:=Nky (ho.move (st':=⟨sto,c+128⟩) Zad fun _ _ _=>rfl) hMl.symm;have hse:=NiB hok hce (fuel:=F+38) (cd:=cd0) (z:=z) (l:=M) (o:=((0:Nat):Int)) Zaa Zaa hck0 Zah Zah (fun _=>by decide);have hra:=Nmj hok hce (fuel:=F+38) (cd:=cd0) (z:=z) (l:=M) Zaa Zaa (show cd0.O.length+6≤F+38 by have e:cd0.O.length=1:=rfl;omega) hck0 Zah Zah (fun _=>by decide) (fun _=>by decide);rw[hk2]at hra;rw[show((0:Nat):Int)=0 from rfl,hk1,hRs]at hse;have hsm:=NkL (cfg:=cfg) (hc.fn _ _ (by kernel_rfl)) hxs (hc.fn _ _ (by kernel_rfl)) hxi (fuel:=F+48) (s:=s) (by rw[hRs,List.length_nil];omega) (by rw[hRs];decide);rw[hRs]at hsm;have dc:=fun st=>Nbu (st:=st) (cd:=cd0);have gS:∀ key:Nat,Naq (Nai cfg (NaK cfg (F+50)) 10) false ⟨sto,c+128⟩ key [.agg [slV cd0.zo cd0.O.length (cd0.O.flatMap Dc.cs),slV cd0.zt cd0.T.length (cd0.T.flatMap Tx.cs)],w,.i .i64 ((0:Nat):Int)]=some (.agg [.i .i64 s.W,.i .i64 s.wn,.i .i64 s.R,.i .i64 s.rn,.nsl],⟨sto,c+128⟩):=fun key=>NaT (Ncy (dc _) dz rfl) hse rfl rfl;have gX:∀ (st:St) (key:Nat),Naq (Nai cfg (NaK cfg (F+50)) 12) false st key [.agg [.i .i64 s.W,.i .i64 s.wn,.i .i64 s.R,.i .i64 s.rn,.nsl],.agg [.i .i64 s.W,.i .i64 s.wn,.i .i64 s.R,.i .i64 s.rn,.nsl]]=some (.b true,st):=fun st key=>NaT (Na4 rfl rfl) hsm rfl rfl;have gR:∀ key:Nat,Naq (Nai cfg (NaK cfg (F+50)) 13) false ⟨sto,c+128⟩ key [.agg [slV cd0.zo cd0.O.length (cd0.O.flatMap Dc.cs),slV cd0.zt cd0.T.length (cd0.T.flatMap Tx.cs)],w]=some (.nsl,⟨sto,c+128⟩):=fun key=>NaT (Na4 (dc _) dz) hra rfl rfl;have nn:∀ u:Nat,u∉([]:List Nat):=fun _=>List.not_mem_nil;have hnn:∀ d n',St.get ⟨sto,n'⟩ (c+d)=none:=fun d _=>ht (c+d) Zad;rw[Z0];refine Neq (NcN hok _) (NcY hok _).2 [] (by rfl) (ns:=[false,false,false,true,false,false,false,false,false,false,false,false,false,false,false,false]) (by rfl) ht ?_;(first|rw[Nau]|rw[Nap]);(try simp(maxSteps:=9^7)(disch:=first|omega|rfl|assumption)only[↓Yaa,Yac,Nae,Naa,rA,rB,rC,rD,reduceIte,unP,Xl,rE,NaO,NaL,NaN,Nak,Naj,Nan,Nal,g9,g10,g11,kT9,kT11,NbL,NbM,gS,gX,gR,aw]);(first|rw[Nau]|rw[Nap]);(try simp(maxSteps:=9^7)(disch:=first|omega|rfl|assumption)only[↓Yaa,Yac,Nae,Naa,rA,rB,rC,rD,reduceIte,unP,Xl,rE,NaO,NaL,NaN,Nak,Naj,Nan,Nal,g9,g10,g11,kT9,kT11,NbL,NbM,gS,gX,gR,aw]);(first|rw[Nau]|rw[Nap]);(try simp(maxSteps:=9^7)(disch:=first|omega|rfl|assumption)only[↓Yaa,Yac,Nae,Naa,rA,rB,rC,rD,reduceIte,unP,Xl,rE,NaO,NaL,NaN,Nak,Naj,Nan,Nal,g9,g10,g11,kT9,kT11,NbL,NbM,gS,gX,gR,aw]);(first|rw[Nau]|rw[Nap]);(try simp(maxSteps:=9^7)(disch:=first|omega|rfl|assumption)only[↓Yaa,Yac,Nae,Naa,rA,rB,rC,rD,reduceIte,unP,Xl,rE,NaO,NaL,NaN,Nak,Naj,Nan,Nal,g9,g10,g11,kT9,kT11,NbL,NbM,gS,gX,gR,aw]);(first|rw[Nau]|rw[Nap]);(try simp(maxSteps:=9^7)(disch:=first|omega|rfl|assumption)only[↓Yaa,Yac,Nae,Naa,rA,rB,rC,rD,reduceIte,unP,Xl,rE,NaO,NaL,NaN,Nak,Naj,Nan,Nal,g9,g10,g11,kT9,kT11,NbL,NbM,gS,gX,gR,aw]);(first|rw[Nau]|rw[Nap]);(try simp(maxSteps:=9^7)(disch:=first|omega|rfl|assumption)only[↓Yaa,Yac,Nae,Naa,rA,rB,rC,rD,reduceIte,unP,Xl,rE,NaO,NaL,NaN,Nak,Naj,Nan,Nal,g9,g10,g11,kT9,kT11,NbL,NbM,gS,gX,gR,aw]);(first|rw[Nau]|rw[Nap]);(try simp(maxSteps:=9^7)(disch:=first|omega|rfl|assumption)only[↓Yaa,Yac,Nae,Naa,rA,rB,rC,rD,reduceIte,unP,Xl,rE,NaO,NaL,NaN,Nak,Naj,Nan,Nal,g9,g10,g11,kT9,kT11,NbL,NbM,gS,gX,gR,aw]);(first|rw[Nau]|rw[Nap]);(try simp(maxSteps:=9^7)(disch:=first|omega|rfl|assumption)only[↓Yaa,Yac,Nae,Naa,rA,rB,rC,rD,reduceIte,unP,Xl,rE,NaO,NaL,NaN,Nak,Naj,Nan,Nal,g9,g10,g11,kT9,kT11,NbL,NbM,gS,gX,gR,aw]);(first|rw[Nau]|rw[Nap]);(try simp(maxSteps:=9^7)(disch:=first|omega|rfl|assumption)only[↓Yaa,Yac,Nae,Naa,rA,rB,rC,rD,reduceIte,unP,Xl,rE,NaO,NaL,NaN,Nak,Naj,Nan,Nal,g9,g10,g11,kT9,kT11,NbL,NbM,gS,gX,gR,aw]);(first|rw[Nau]|rw[Nap]);(try simp(maxSteps:=9^7)(disch:=first|omega|rfl|assumption)only[↓Yaa,Yac,Nae,Naa,rA,rB,rC,rD,reduceIte,unP,Xl,rE,NaO,NaL,NaN,Nak,Naj,Nan,Nal,g9,g10,g11,kT9,kT11,NbL,NbM,gS,gX,gR,aw]);(first|rw[Nau]|rw[Nap]);(try simp(maxSteps:=9^7)(disch:=first|omega|rfl|assumption)only[↓Yaa,Yac,Nae,Naa,rA,rB,rC,rD,reduceIte,unP,Xl,rE,NaO,NaL,NaN,Nak,Naj,Nan,Nal,g9,g10,g11,kT9,kT11,NbL,NbM,gS,gX,gR,aw]);(first|rw[Nau]|rw[Nap]);(try simp(maxSteps:=9^7)(disch:=first|omega|rfl|assumption)only[↓Yaa,Yac,Nae,Naa,rA,rB,rC,rD,reduceIte,unP,Xl,rE,NaO,NaL,NaN,Nak,Naj,Nan,Nal,g9,g10,g11,kT9,kT11,NbL,NbM,gS,gX,gR,aw]);(first|rw[Nau]|rw[Nap]);(try simp(maxSteps:=9^7)(disch:=first|omega|rfl|assumption)only[↓Yaa,Yac,Nae,Naa,rA,rB,rC,rD,reduceIte,unP,Xl,rE,NaO,NaL,NaN,Nak,Naj,Nan,Nal,g9,g10,g11,kT9,kT11,NbL,NbM,gS,gX,gR,aw]);(first|rw[Nau]|rw[Nap]);(try simp(maxSteps:=9^7)(disch:=first|omega|rfl|assumption)only[↓Yaa,Yac,Nae,Naa,rA,rB,rC,rD,reduceIte,unP,Xl,rE,NaO,NaL,NaN,Nak,Naj,Nan,Nal,g9,g10,g11,kT9,kT11,NbL,NbM,gS,gX,gR,aw]);(first|rw[Nau]|rw[Nap]);(try simp(maxSteps:=9^7)(disch:=first|omega|rfl|assumption)only[↓Yaa,Yac,Nae,Naa,rA,rB,rC,rD,reduceIte,unP,Xl,rE,NaO,NaL,NaN,Nak,Naj,Nan,Nal,g9,g10,g11,kT9,kT11,NbL,NbM,gS,gX,gR,aw]);(first|rw[Nau]|rw[Nap]);(try simp(maxSteps:=9^7)(disch:=first|omega|rfl|assumption)only[↓Yaa,Yac,Nae,Naa,rA,rB,rC,rD,reduceIte,unP,Xl,rE,NaO,NaL,NaN,Nak,Naj,Nan,Nal,g9,g10,g11,kT9,kT11,NbL,NbM,gS,gX,gR,aw]);refine⟨⟨nn _,nofun⟩,NaA rfl,Nbn (nn _),NaA rfl,by rw[NaL _ _ _ _ _ _ _ rfl];trivial,by rw[Naj _ _ _ _ _ _ _ rfl];exact fun _ _ _=>rfl,⟨nn _,fun _ k o h=>by cases h;exact⟨by omega,nn _⟩⟩,Nbc rfl (by simp[Nby,PV.same]) (hnn 24 _),by rw[NaL _ _ _ _ _ _ _ rfl];trivial,by rw[Naj _ _ _ _ _ _ _ rfl];exact fun _ _ _=>rfl,Nbn (nn _),NaA rfl,⟨nn _,nofun⟩,NaA rfl,Nbn (nn _),NaA rfl,by rw[NaL _ _ _ _ _ _ _ rfl];trivial,by rw[Naj _ _ _ _ _ _ _ rfl];exact fun _ _ _=>rfl,Nbn (nn _),NaA rfl,Nbn (nn _),NaA rfl,Nbn (nn _),NaA rfl,Nbn (nn _),NaA rfl,by rw[NaL _ _ _ _ _ _ _ rfl];trivial,by rw[Naj _ _ _ _ _ _ _ rfl];exact fun _ _ _=>rfl,Nbn (nn _),NaA rfl,Nbn (nn _),NaA rfl,?_⟩;rw[NfS]
     iterate 3
      (try rw[Z0]);(try simp(maxSteps:=9^7)(disch:=first|omega|rfl|assumption)only[↓Yaa,Yab,Nae,Naa,rA,rB,rC,rD,reduceIte,unP,rE,g2,g9,g11,kT9,kT11,g10])
     exact⟨nofun,_,rfl,by simp only[NaF,Yad,if_true]⟩
theorem Nj3(f:Nat)(z0:List PV)(i0:(Njw f).Is z0)(n1:Nat)(z1:List PV)(l1:z1.length=n1 * etSh.width)(b1:n1≤reachBytes)(i1:∀ j,j<n1→etSh.Is ((z1.drop (j * etSh.width)).take etSh.width))(n2:Nat)(z2:List PV)(l2:z2.length=n2 * Sh.b.width)(b2:n2≤reachBytes)(i2:∀ j,j<n2→Sh.b.Is ((z2.drop (j * Sh.b.width)).take Sh.b.width)):∃ cd hwf fuel,evP (Nfq cd hwf) fuel 3 [.agg z0,.fsl n1 z1,.fsl n2 z2]=some (.b true):=by
 obtain⟨cd,rfl,hwf⟩:=Nrc f z0 i0;obtain⟨l,hl,hn,hw⟩:=Ngd (f:=Et.cs) (Q:=Et.wf) (w:=5) n1 z1 l1 (fun j hj=>Nre _ (i1 j hj));obtain⟨bs,hb,hm,-⟩:=Ngd (f:=fun b:Bool=>[PV.b b]) (Q:=fun _=>True) (w:=1) n2 z2 l2 (fun j hj=>by
  obtain⟨b,e⟩:=i2 j hj;exact⟨b,e,trivial⟩)
 rw[hn,←hl,hm,←hb];obtain⟨fuel,hev⟩:=Nn2 hwf (l:=l) Zaa (bs:=bs) Zaa;exact⟨cd,hwf,fuel,hev⟩
end Go.Pe
