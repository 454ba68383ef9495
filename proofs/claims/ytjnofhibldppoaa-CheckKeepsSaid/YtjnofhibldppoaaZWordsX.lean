/-
 Words: the token at a place, by the interpreter of plain data. No condition.
-/
import Derived.Test.YtjnofhibldppoaaZWordsN
import Derived.Test.YtjnofhibldppoaaZPe4
set_option linter.unusedVariables false
set_option linter.unusedSimpArgs false
namespace Go.Pe
open Go Go.Am Go.RowKit
section
variable {st:St}{k:Nat}{cs:List PV}
def Noo:FuncId→Option (List PV→Option PV):=fun f=>if f=83 then some gContains else if f=80 then some gCount else if f=93 then some gIndexByte else none
noncomputable def cfgW:Cfg:={ fn:=fun f=>Ndk f tblL,ext:=Noo }
theorem NgN(n:Nat):fvP cfgW (n+60) 78 []=some (.agg clsCells):=by
 kernel_rfl
def Nc2:List UInt8:=[32,97,99,113,117,105,114,101,32,97,100,100,32,97,114,114,105,118,101,32,98,97,114,114,105,101,114,32,98,114,111,97,100,99,97,115,116,32,99,111,110,100,32,100,111,32,100,111,110,101,32,101,108,115,101,32,105,102,32,108,111,99,107,32,108,111,99,107,102,111,114,32,108,111,111,112,32,109,117,116,101,120,32,111,110,99,101,32,112,117,116,32,113,117,101,117,101,32,114,101,97,100,32,114,101,108,101,97,115,101,32,114,108,111,99,107,32,114,117,110,108,111,99,107,32,114,119,108,111,99,107,32,115,101,109,32,115,101,116,32,115,105,103,110,97,108,32,116,97,107,101,32,116,104,114,101,97,100,32,116,114,121,97,99,113,117,105,114,101,32,116,114,121,108,111,99,107,32,117,110,108,111,99,107,32,118,97,114,32,119,97,105,116,32,119,97,105,116,102,111,114,32,119,97,105,116,111,110,32,119,108,111,99,107,32,119,114,105,116,101,32,119,117,110,108,111,99,107,32]
def NbJ(err line:Int):PV:=.tup [.agg [.i .u8 0,.s [],.i .i64 0,.i .i64 0,.i .i64 0,.i .i64 0],.agg [.i .i64 err,.i .i64 line]]
def Nd4(kind:Int)(s:List UInt8)(n line a e:Int):PV:=.tup [.agg [.i .u8 kind,.s s,.i .i64 n,.i .i64 line,.i .i64 a,.i .i64 e],.agg [.i .i64 0,.i .i64 0]]
def Ndl(text:List UInt8)(at0:Nat):PV :=
 let a:=at0+NcJ false (text.drop at0)
 let line:Int:=NgO 10 (text.take a) 0+1
 if a=text.length then Nd4 5 [] 0 line a a else
 let e:=a+Nhc (text.drop a)
 let s:=(text.drop a).take (Nhc (text.drop a))
 let c:=cls (text.getD a 0)
 if c=3 then match NhZ 0 s with
  |some n=>Nd4 1 [] n line a e
  |none=>NbJ 100 line
 else if c=4 then Nd4 (if NhI (32::s++[32]) Nc2 then 3 else 2) s 0 line a e
 else if c=5∧s≠[61]then Nd4 4 s 0 line a e
 else NbJ 100 line
theorem Nez(n:Nat):Nam cfgW (NaI cfgW (n+60)) 78 []=some (.agg clsCells):=by
 have h:=NgN n;rw[NjS]at h;exact h
theorem NnL:cfgW.ext 93=some gIndexByte:=by kernel_rfl
theorem NnJ:cfgW.ext 80=some gCount:=by kernel_rfl
theorem NnI:cfgW.ext 83=some gContains:=by kernel_rfl
theorem NnH:cfgW.ext 79=none:=by kernel_rfl
theorem NnK:cfgW.ext 81=none:=by kernel_rfl
theorem NnM:cfgW.ext 82=none:=by kernel_rfl
theorem NnE:cfgW.fn 79=some m79:=by kernel_rfl
theorem NnF:cfgW.fn 81=some m81:=by kernel_rfl
theorem NnG:cfgW.fn 82=some m82:=by kernel_rfl
theorem Ni7:cfgW.fn 64=some m64:=by kernel_rfl
theorem NeY:clsCells.length=256:=by simp[clsCells]
theorem NeZ:clsCells.all PV.one=true:=by
 rw[List.all_eq_true];intro p hp;simp only[clsCells,List.mem_map]at hp;obtain⟨i,_,rfl⟩:=hp;rfl
theorem Nbs{n:Nat}{v:PV}(hk:st.get k=some (.cells cs false))(hv:v.cells.length=n)(hn:cs.length=n)(h1:v.cells.all PV.one=true):NaQ st n (.ptr k 0) v=some (st.put k (some (.cells v.cells false))):=by
 unfold NaQ;simp only[hk];rw[if_pos ⟨hv,by omega,h1⟩];have:List.drop n cs=[]:=List.drop_of_length_le Zaa;simp[this]
theorem Nbc{n:Nat}{fz:Bool}(hk:st.get k=some (.cells cs fz))(hn:cs.length=n):NaS st n (.ptr k 0)=some cs:=by
 unfold NaS;simp only[hk];unfold cut?;rw[if_pos Zaa];subst hn;simp
theorem NbG{off:Nat}{v:PV}(hk:st.get k=some (.cells cs false))(ho:off<cs.length)(hv:v.cells=[v])(h1:v.one=true):NaQ st 1 (.ptr k off) v=some (st.put k (some (.cells (cs.set off v) false))):=by
 unfold NaQ;simp only[hk,hv];rw[if_pos ⟨rfl,by omega,by simp[h1]⟩];rw[List.set_eq_take_append_cons_drop,if_pos ho];simp
theorem Ndb{env:Env}{w w0 f f0:List PV}{R:PV}(h4:env.get 4=.ptr 1 0)(h5:env.get 5=.ptr 9 0)(k1:st.get 1=some (.cells w0 false))(k9:st.get 9=some (.cells f0 false))(l0:w0.length=6)(lf0:f0.length=2)(lw:w.length=6)(lf:f.length=2)(ow:w.all PV.one=true)(of:f.all PV.one=true)(hR:R=.tup [.agg w,.agg f]) :
 WV (Option.map (fun x=>(PV.tup [],x)) (NaQ st 6 (.ptr 1 0) (.agg w))) fun v st'=>WV (Option.map (fun x=>(PV.tup [],x)) (NaQ st' 2 (.ptr 9 0) (.agg f))) fun v st' =>
  (∀ (id:Nat),¬ MExit.ret=MExit.ex id)∧∃ vs,mapO (Nf1 ⟨env,st'⟩) [MRes.cell 4 true 6,MRes.cell 5 true 2]=some vs∧NaF vs=R:=by
 rw[Nbs (v:=.agg w) k1 lw l0 ow];simp only[map_some,Zx,PV.cells];rw[Nbs (v:=.agg f) (st:=st.put 1 (some (.cells w false))) (by rw[Yae (by decide)];exact k9) lf lf0 of];simp only[map_some,Zx,PV.cells];refine⟨nofun,[.agg w,.agg f],?_,by rw[hR];rfl⟩;have q1:((st.put 1 (some (.cells w false))).put 9 (some (.cells f false))).get 1=some (.cells w false):=by
  rw[Yae Zai,Yaf]
 have q9:=Yaf (st.put 1 (some (.cells w false))) 9 (some (.cells f false));simp only[mapO,Nf1,h4,h5,Nbc q1 lw,Nbc q9 lf,Naa,if_true]
theorem Njl{M:Nat}{s:List UInt8}(hl:s.length≤16384)(hM:s.length<M):Nam cfgW (NaI cfgW (M+60)) 82 [.s s]=some (numR s):=by
 obtain⟨r,st',h1,h2⟩:=Nh0 (fuel:=M+59) NnG hl Zaa (st:={ sto:=.leaf,cnt:=1 });unfold Nam;simp only[NnM];unfold NfB;have h1':NaI cfgW (M+60) 82 (Naw [.s s]).1 (Naw [.s s]).2=some (r,st'):=h1;have hc:Nbg st' (numR s)=some (numR s):=by
  unfold numR;cases NhZ 0 s with
  |none=>exact Nda (vs:=[.i .i64 0,.b false]) rfl
  |some n=>exact Nda (vs:=[.i .i64 n,.b true]) rfl
 rw[h1',h2];exact hc
end
end Go.Pe
