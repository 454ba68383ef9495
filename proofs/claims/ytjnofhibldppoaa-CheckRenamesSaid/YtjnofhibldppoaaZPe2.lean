/-
 The interpreter of plain data is sound, operation by operation. No condition; nothing of the program.
-/
import Derived.Test.YtjnofhibldppoaaZPe1
import Derived.Laws.Entries
import Derived.Lib.SliceRun
import Derived.Laws.MakeOwn
import Derived.Laws.StructEq
import Derived.MapKept
set_option linter.unusedVariables false
set_option linter.unusedSimpArgs false
set_option maxHeartbeats 2000000
namespace Go.Pe
open Go Go.Am Go.RowKit
section
variable {P:Program}{V:List Nat}{base:Nat}{N:Nat→Prop}{G:Ghost}{st:St}{w:World}
theorem Nr5{a:Value}{pa:PV}{x:Bool}(ha:VRel G a pa)(h:Nee? pa=some (0,x)):∃ ao n c,a=.slice ao n c∧x=ao.isNone:=by
 cases ha<;>simp[Nee?]at h<;>simp_all
theorem Nr6{a:Value}{pa:PV}{x:Bool}(ha:VRel G a pa)(h:Nee? pa=some (1,x)):∃ ao,a=.pointer ao∧x=ao.isNone:=by
 cases ha<;>simp[Nee?]at h<;>simp_all
theorem Nr7{a:Value}{pa:PV}{x:Bool}(ha:VRel G a pa)(h:Nee? pa=some (2,x)):(a=.nilFunc∧x=true)∨∃ f c d,a=.func f c d∧x=false:=by
 cases ha<;>simp[Nee?]at h<;>simp_all
theorem Nr8{a:Value}{pa:PV}{x:Bool}(ha:VRel G a pa)(h:Nee? pa=some (3,x)):∃ r,a=.map r∧x=r.isNone:=by
 cases ha<;>simp[Nee?]at h<;>simp_all
theorem Njh(d:Nat){t:TypeId}{D:TypeDesc}(hu:P.underlying t=some D){kd:Nat}(hk:kdT D=some kd){a c:Value}{pa pc:PV}(ha:VRel G a pa)(hc:VRel G c pc){x y:Bool}(h1:Nee? pa=some (kd,x))(h2:Nee? pc=some (kd,y))(hxy:x=true∨y=true)(w:World) :
 (Op.equalIn (d+1) t a c).run P w=.ok (x&&y) w∧(∀ op z u,eqGuard op t z u a c=pure ())∧binOp .eql t a c=(do pure (.bool (←Op.equal t a c)))∧binOp .neq t a c=(do pure (.bool (!(←Op.equal t a c)))):=by
 cases D<;>simp[kdT]at hk<;>subst hk
 case pointer e =>
  obtain⟨ao,rfl,rfl⟩:=Nr6 ha h1;obtain⟨bo,rfl,rfl⟩:=Nr6 hc h2;refine⟨?_,fun op z u=>by cases op<;>rfl,rfl,rfl⟩;cases ao<;>cases bo<;>simp at hxy<;>simp[Op.equalIn,run_underlying hu]
 case slice e =>
  obtain⟨ao,n,m,rfl,rfl⟩:=Nr5 ha h1;obtain⟨bo,n',m',rfl,rfl⟩:=Nr5 hc h2;refine⟨?_,fun op z u=>by cases op<;>rfl,rfl,rfl⟩;cases ao<;>cases bo<;>simp at hxy<;>simp[Op.equalIn,run_underlying hu]
 case map e f =>
  obtain⟨ao,rfl,rfl⟩:=Nr8 ha h1;obtain⟨bo,rfl,rfl⟩:=Nr8 hc h2;refine⟨?_,fun op z u=>by cases op<;>rfl,rfl,rfl⟩;cases ao<;>cases bo<;>simp at hxy<;>simp[Op.equalIn,run_underlying hu]
 case func e f g =>
  rcases Nr7 ha h1 with⟨rfl,rfl⟩|⟨f1,c1,d1,rfl,rfl⟩<;>rcases Nr7 hc h2 with⟨rfl,rfl⟩|⟨f2,c2,d2,rfl,rfl⟩
  case inr.inr=>simp at hxy
  all_goals (exact⟨by simp[Op.equalIn,run_underlying hu],fun op z u=>by cases op<;>rfl,rfl,rfl⟩)
theorem NmT(hs:Sim G st w base){neg:Bool}{t:TypeId}{x y:Operand}{a c:Value}{pa pc r:PV}{D:TypeDesc}(hu:P.underlying t=some D){kd:Nat}(hk:kdT D=some kd)(ha:VRel G a pa)(hc:VRel G c pc)(h:NoZ kd neg pa pc=some r) :
 OpOK P base N G st w (do pure (.value (←do eqGuard (if neg then .neq else .eql) t x y a c;binOp (if neg then .neq else .eql) t a c))) r st:=by
 unfold NoZ at h;split at h
 ·rename_i k1 b1 k2 b2 h1 h2;split at h
  ·rename_i hcond;obtain⟨rfl,rfl,hxy⟩:=hcond;simp only[Sj]at h;subst h;obtain⟨he,hg,hb1,hb2⟩:=Njh (P:=P) 9999 hu hk ha hc h1 h2 hxy w;have he':(Op.equal t a c).run P w=.ok (b1&&b2) w:=he;cases neg
   ·exact OpOK.same hs (v:=.bool ((b1&&b2) != false)) (by simp[hg,hb1,he']) (.b _)
   ·exact OpOK.same hs (v:=.bool ((b1&&b2) != true)) (by simp[hg,hb2,he']) (.b _)
  ·simp at h
 ·simp at h
theorem Nok(hs:Sim G st w base){f:FuncId}{cs:Array Value}{ps:List PV}(h:CRel G cs.toList ps):OpOK P base N G st w (do pure (.value (←Instr.makeFunc (.func f) #[] cs))) (.fn f ps) st :=
 OpOK.same hs (by simp[Instr.makeFunc]) (.fn f cs ps (by simpa using h.1) fun i v p hv hp=>h.2 i v p (by simpa using hv) hp)
theorem Nl9(hs:Sim G st w base){f:FuncId}{cs:Array Value}{ps:List PV}(h:CRel G cs.toList ps):OpOK P base N G st w (do pure (.value (←Instr.makeFunc (.func f) cs #[]))) (.bfn f ps) st :=
 OpOK.same hs (by simp[Instr.makeFunc]) (.bfn f cs ps (by simpa using h.1) fun i v p hv hp=>h.2 i v p (by simpa using hv) hp)
theorem Nd8(hs:Sim G st w base){s:TypeId}{fs:Array Field}(hu:P.underlying s=some (.struct fs)){j:Nat}{fd:Field}(hf:fs[j]? = some fd){n:Nat}(hn:sizeT P fd.type=some n)(h0:n≠0){v:Value}{p r:PV}(hv:VRel G v p)
 (hr:(match p with|.ptr k o=>some (PV.ptr k (o+fd.offset))|.fptr cs=>some (.fptr (cs.drop fd.offset))|_=>none)=some r) :
 OpOK P base N G st w (do pure (.value (←Instr.fieldAt s v j))) r st:=by
 cases hv with
 |ptr k o blk size hB =>
   simp only[Sj]at hr;subst hr;exact OpOK.same hs (v:=.pointer (some ⟨blk,o+fd.offset,none⟩)) (by simp[Instr.fieldAt,run_underlying hu,hf,Instr.sureAddr,fieldPlace,NaS hn,h0,Addr.add_mid]) (.ptr _ _ _ _ hB)
 |fptr b o ps f hF hh =>
   simp only[Sj]at hr;subst hr;refine OpOK.same hs (v:=.pointer (some ⟨b,o+fd.offset,none⟩)) (by simp[Instr.fieldAt,run_underlying hu,hf,Instr.sureAddr,fieldPlace,NaS hn,h0,Addr.add_mid]) (.fptr b _ _ (fun i=>f (fd.offset+i)) ?_ ?_)
   ·intro i hi;rw[Nat.add_assoc];simp at hi;exact hF _ Zaa
   ·intro i q hq;rw[List.getElem?_drop]at hq;exact hh _ q hq
 |_=>simp at hr
theorem NdJ{t:TypeId}{agg:Bool}{n:Nat}(ha:Ncq P t=some agg)(hn:sizeT P t=some n){vs:Array Value}{cs:List PV}(hc:CRel G vs.toList cs){off:Nat}{l:List PV}(hl:cut? cs off n=some l){r:PV}(ho:Naa agg l=some r)(w:World) :
 ∃ v,(part t vs off).run P w=.ok v w∧VRel G v r:=by
 unfold cut? at hl;split at hl
 ·rename_i hle;simp only[Sj]at hl;have hlv:=hc.1;cases agg with
  |true =>
    simp only[Naa,if_true,Sj]at ho;subst ho;refine⟨.agg (vs.extract off (off+n)),by simp[part,Nda ha,NaS hn],VRel.agg_c ?_⟩;have e:(vs.extract off (off+n)).toList=(vs.toList.drop off).take n:=by
     rw[Array.toList_extract,List.extract_eq_take_drop];congr 1;omega
    rw[e,←hl];exact(hc.drop off).take n
  |false =>
    simp only[Naa,Bool.false_eq_true,if_false]at ho
    match l,hl,ho with
    |[p],hl,ho =>
      simp only[Sj]at ho;subst ho;have hl1:=congrArg List.length hl;simp at hl1;have hoff:off<vs.size:=(by simp at hlv;omega);have hp:cs[off]? = some p:=by
       have:=congrArg (fun l=>l[0]?) hl;simp only[List.getElem?_take,List.getElem?_drop,Nat.add_zero]at this;rw[if_pos Zaa]at this;simpa using this
      refine⟨vs[off],by simp[part,Nda ha,hoff],hc.2 off vs[off] p (by simp[hoff]) hp⟩
 ·simp at hl
theorem Nl7(hs:Sim G st w base){s:TypeId}{fs:Array Field}(hu:P.underlying s=some (.struct fs)){j:Nat}{fd:Field}(hf:fs[j]? = some fd){agg:Bool}{n:Nat}(ha:Ncq P fd.type=some agg)(hn:sizeT P fd.type=some n)
 {v:Value}{cs:List PV}(hv:VRel G v (.agg cs)) {l:List PV}(hl:cut? cs fd.offset n=some l) {r:PV}(ho:Naa agg l=some r):OpOK P base N G st w (do pure (.value (←Instr.field s v j))) r st:=by
 obtain⟨vs,rfl,hc⟩:=hv.agg_inv;obtain⟨u,hu2,hr⟩:=NdJ ha hn hc hl ho w;exact OpOK.same hs (by simp[Instr.field,run_underlying hu,hf,asAgg,hu2]) hr
theorem Nl8(hs:Sim G st w base){t e:TypeId}{len:Nat}(hu:P.underlying t=some (.array len e)){agg:Bool}{n:Nat}(ha:Ncq P e=some agg)(hn:sizeT P e=some n)
 {v:Value}{cs:List PV}(hv:VRel G v (.agg cs)) {k:IntKind}{j:Int}(h0:0≤j) (h1:j<len) {l:List PV}(hl:cut? cs (j.toNat * n) n=some l) {r:PV}(ho:Naa agg l=some r):OpOK P base N G st w (do pure (.value (←Instr.index t v (.int k j)))) r st:=by
 obtain⟨vs,rfl,hc⟩:=hv.agg_inv;obtain⟨u,hu2,hr⟩:=NdJ ha hn hc hl ho w;exact OpOK.same hs (by simp[Instr.index,asIntOf,run_underlying hu,h0,h1,NaS hn,hu2]) hr
theorem Nkt(hs:Sim G st w base){t:TypeId}(hu:P.underlying t=some .string){l:List UInt8}{k:IntKind}{j:Int}(h0:0≤j){c:UInt8}(hc:l[j.toNat]? = some c) :
 OpOK P base N G st w (do pure (.value (←Instr.index t (.string ⟨l.toArray⟩) (.int k j)))) (.i .u8 c.toNat) st:=by
 have hlt:j.toNat<l.length:=(List.getElem?_eq_some_iff.1 hc).1;have hg:(⟨l.toArray⟩:ByteArray)[j.toNat]? = some c:=by
  have hsz:j.toNat<(⟨l.toArray⟩:ByteArray).size:=by simpa[ByteArray.size]using hlt
  rw[getElem?_pos (⟨l.toArray⟩:ByteArray) j.toNat hsz];have:=(List.getElem?_eq_some_iff.1 hc).2;rw[←this];rfl
 exact OpOK.same hs (by simp[Instr.index,asIntOf,run_underlying hu,h0,hg]) (.i _ _)
theorem Nja(hs:Sim G st w base){v:Value}{vs:List PV}(hv:VRel G v (.tup vs)){i:Nat}{r:PV}(hr:vs[i]? = some r):OpOK P base N G st w (do pure (.value (←Instr.extract v i))) r st:=by
 obtain⟨cs,rfl,hc⟩:=hv.tup_inv;have hi:i<vs.length:=(List.getElem?_eq_some_iff.1 hr).1;have hi2:i<cs.size:=by have:=hc.1;simp at this;omega
 exact OpOK.same hs (v:=cs[i]) (by simp[Instr.extract,hi2]) (hc.2 i cs[i] r (by simp[hi2]) hr)
theorem NcF(hs:Sim G st w base){t e:TypeId}{len:Nat}(hu:P.underlying t=some (.array len e)){sz:Nat}(hn:sizeT P e=some sz){v:Value}{p r:PV}(hv:VRel G v p){k:IntKind}{j:Int}(h0:0≤j)(h1:j<len)
 (hr:(match p with|.ptr k o=>some (PV.ptr k (o+j.toNat * sz))|.fptr cs=>some (.fptr (cs.drop (j.toNat * sz)))|_=>none)=some r):OpOK P base N G st w (do pure (.value (←Instr.indexAt t v (.int k j)))) r st:=by
 cases hv with
 |ptr k o blk size hB =>
   simp only[Sj]at hr;subst hr;exact OpOK.same hs (v:=.pointer (some ⟨blk,o+j.toNat * sz,none⟩)) (by simp[Instr.indexAt,asIntOf,run_underlying hu,Instr.sureAddr,h0,h1,NaS hn,Addr.add_mid]) (.ptr _ _ _ _ hB)
 |fptr b o ps f hF hh =>
   simp only[Sj]at hr;subst hr;refine OpOK.same hs (v:=.pointer (some ⟨b,o+j.toNat * sz,none⟩)) (by simp[Instr.indexAt,asIntOf,run_underlying hu,Instr.sureAddr,h0,h1,NaS hn,Addr.add_mid]) (.fptr b _ _ (fun i=>f (j.toNat * sz+i)) ?_ ?_)
   ·intro i hi;rw[Nat.add_assoc];simp at hi;exact hF _ Zaa
   ·intro i q hq;rw[List.getElem?_drop]at hq;exact hh _ q hq
 |_=>simp at hr
theorem NcT(hs:Sim G st w base){t e:TypeId}(hu:P.underlying t=some (.slice e)){sz:Nat}(hn:sizeT P e=some sz){v:Value}{p r:PV}(hv:VRel G v p){k:IntKind}{j:Int}
 (hr:(match p with
  |.rsl k z off n=>if z=sz∧0≤j∧j<n then some (PV.ptr k (off+j.toNat * sz))else none
  |.fsl n cs=>if cs.length=n * sz∧0<sz∧0≤j∧j<n then some (.fptr (cs.drop (j.toNat * sz)))else none
  |_=>none)=some r):OpOK P base N G st w (do pure (.value (←Instr.indexAt t v (.int k j)))) r st:=by
 cases hv with
 |rsl k z off n blk size cap hB hc hm hz hz0 =>
   simp only[]at hr;split at hr
   ·rename_i hcond;obtain⟨rfl,h0,h1⟩:=hcond;simp only[Sj]at hr;subst hr;exact OpOK.same hs (v:=.pointer (some ⟨blk,off+j.toNat * z,none⟩)) (by simp[Instr.indexAt,asIntOf,run_underlying hu,h0,h1,NaS hn,Addr.add_mid]) (.ptr _ _ _ _ hB)
   ·simp at hr
 |fsl b o n cap ps f hc hm hF hh =>
   simp only[]at hr;split at hr
   ·rename_i hcond;obtain⟨hl,hz,h0,h1⟩:=hcond;simp only[Sj]at hr;subst hr;refine OpOK.same hs (v:=.pointer (some ⟨b,o+j.toNat * sz,none⟩)) (by simp[Instr.indexAt,asIntOf,run_underlying hu,h0,h1,NaS hn,Addr.add_mid]) (.fptr b _ _ (fun i=>f (j.toNat * sz+i)) ?_ ?_)
    ·intro i hi;rw[Nat.add_assoc];simp at hi;exact hF _ Zaa
    ·intro i q hq;rw[List.getElem?_drop]at hq;exact hh _ q hq
   ·simp at hr
 |fnull a cap hm =>
   simp only[]at hr;split at hr
   ·rename_i hcond;omega
   ·simp at hr
 |_=>simp at hr
theorem NpL(hs:Sim G st w base){ty:TypeId}{t e:TypeId}(hu:P.underlying t=some (.slice e)){v:Value}{p r:PV}(hv:VRel G v p)(hr:Nd7 p=some r) :
 OpOK P base N G st w (do pure (.value (←Builtin.len_ #[t] ty #[v]))) r st:=by
 cases hv<;>simp[Nd7]at hr<;>subst hr<;>exact OpOK.same hs (by simp[Builtin.len_,run_underlying hu,goInt]) (.i _ _)
theorem Nom(hs:Sim G st w base){ty:TypeId}{t:TypeId}(hu:P.underlying t=some .string){l:List UInt8} :
 OpOK P base N G st w (do pure (.value (←Builtin.len_ #[t] ty #[.string ⟨l.toArray⟩]))) (.i .i64 l.length) st:=by
 have hsz:(⟨l.toArray⟩:ByteArray).size=l.length:=by simp[ByteArray.size]
 exact OpOK.same hs (by simp[Builtin.len_,run_underlying hu,hsz,goInt]) (.i _ _)
theorem Nod(hs:Sim G st w base){ty:TypeId}{t e:TypeId}{n:Nat}(hu:P.underlying t=some (.array n e)){v:Value} :
 OpOK P base N G st w (do pure (.value (←Builtin.len_ #[t] ty #[v]))) (.i .i64 n) st :=
 OpOK.same hs (by simp[Builtin.len_,run_underlying hu,goInt]) (.i _ _)
theorem Niq(hs:Sim G st w base){v:Value}{p r:PV}(hv:VRel G v p)(hr:(match p with|.ptr k o=>some (PV.ptr k o)|.fptr cs=>some (.fptr cs)|_=>none)=some r){ρc:Operand→Value}{x:Operand}(hx:ρc x=v){o:Oper}(ho:o.op=.nilCheck x) :
 OpOK P base N G st w (execOp ρc o) r st:=by
 cases hv with
 |ptr k o' blk size hB =>
   simp only[Sj]at hr;subst hr;exact OpOK.same hs (by simp[execOp,ho,hx]) (.ptr _ _ _ _ hB)
 |fptr b o' ps f hF hh =>
   simp only[Sj]at hr;subst hr;exact OpOK.same hs (by simp[execOp,ho,hx]) (.fptr b o' ps f hF hh)
 |_=>simp at hr
end
section
variable {P:Program}{V:List Nat}{base:Nat}{N:Nat→Prop}{G:Ghost}{st:St}{w:World}
def Nk8(G:Ghost):Option Value→Option PV→Prop
 |none,none=>True
 |some v,some p=>VRel G v p
 |_,_=>False
theorem Njx{v:Value}{p:PV}(h:VRel G v p){d m r:Nat}(hb:Na4 (some p) d m=some r)(code:BoundsCode)(w:World):(Instr.sliceBound v m code).run P w=.ok r w∧r≤m:=by
 cases h with
 |i k n =>
   simp only[Na4]at hb;split at hb
   ·rename_i hn;simp only[Sj]at hb;subst hb;exact⟨by simp[Instr.sliceBound,asIntOf,hn],by omega⟩
   ·simp at hb
 |_=>simp[Na4]at hb
theorem NbW{lo hi:Option Value}{pl ph:Option PV}(hl:Nk8 G lo pl)(hh:Nk8 G hi ph){len most cap h l:Nat}(hlen:len≤most)(hcap:most≤cap)(b1:Na4 ph len most=some h)(b2:Na4 pl 0 h=some l)(isS:Bool)(w:World) :
 (Instr.sliceBounds isS len cap lo hi none).run P w=.ok (l,h,cap) w∧l≤h∧h≤most:=by
 have hhr:∀ code,∃ b:Bool,(match hi with|some v=>(Instr.sliceBound v cap code).run P w=.ok h w|none=>len=h)∧h≤most:=by
  intro code;refine⟨true,?_⟩
  match hi,ph,hh with
  |none,none,_=>simp only[Na4,Sj]at b1;exact⟨b1,by omega⟩
  |some v,some p,hh =>
    cases hh with
    |i k n =>
      simp only[Na4]at b1;split at b1
      ·rename_i hn;simp only[Sj]at b1;subst b1;have h1:0≤n:=hn.1;have h2:n≤cap:=(by omega);exact⟨by simp[Instr.sliceBound,asIntOf,h1,h2],by omega⟩
      ·simp at b1
    |_=>simp[Na4]at b1
 have hlr:∀ code,(match lo with|some v=>(Instr.sliceBound v h code).run P w=.ok l w|none=>0=l)∧l≤h:=by
  intro code
  match lo,pl,hl with
  |none,none,_=>simp only[Na4,Sj]at b2;exact⟨b2,by omega⟩
  |some v,some p,hl=>exact Njx hl b2 code w
 refine⟨?_,(hlr .sliceB).2,(hhr .sliceB).choose_spec.2⟩;have h1:=hhr (if isS then .sliceAcap else .sliceAlen);obtain⟨_,h1,_⟩:=h1;have h2:=(hlr .sliceB).1;cases hi<;>cases lo<;>simp[Instr.sliceBounds]at h1 h2 ⊢<;>simp[h1,h2]
theorem NgY(hs:Sim G st w base){t e:TypeId}{n:Nat}(hu:P.underlying t=some (.array n e)){sz:Nat}(hn:sizeT P e=some sz){k off:Nat}{v:Value}(hv:VRel G v (.ptr k off)){cs:List PV}{fz:Bool}(hg:st.get k=some (.cells cs fz))
 {lo hi:Option Value}{pl ph:Option PV}(hl:Nk8 G lo pl) (hh:Nk8 G hi ph) {h l:Nat}(b1:Na4 ph n n=some h) (b2:Na4 pl 0 h=some l) (c1:l<n) (c2:0<sz) (c3:off+n * sz≤cs.length) (c4:n<4294967296) :
 OpOK P base N G st w (do pure (.value (←Instr.sliceAt t v lo hi none))) (.rsl k sz (off+l * sz) (h - l)) st:=by
 cases hv with
 |ptr _ _ blk size hB =>
   obtain⟨hr,h1,h2⟩:=NbW (P:=P) hl hh (Nat.le_refl n) (Nat.le_refl n) b1 b2 false w;obtain⟨cur,ty,m,g1,g2,g3,g4,g5⟩:=hs.cells k cs fz blk size hg hB;have hne:¬ n=l:=(by omega);refine OpOK.same hs (v:=.slice (some ⟨blk,off+l * sz,none⟩) (h - l) (n - l)) (by simp[Instr.sliceAt,run_underlying hu,Instr.sureAddr,hr,NaS hn,hne,Addr.add_mid]) (.rsl k sz _ _ blk size _ hB Zaa (by unfold maxLen;omega) ?_ c2);have:(n - l) * sz+l * sz=n * sz:=(by rw[←Nat.add_mul];congr 1;omega);omega
theorem NhD(hs:Sim G st w base){t e:TypeId}(hu:P.underlying t=some (.slice e)){sz:Nat}(hn:sizeT P e=some sz){v:Value}{p r:PV}(hv:VRel G v p){lo hi:Option Value}{pl ph:Option PV}(hl:Nk8 G lo pl)(hh:Nk8 G hi ph)
 (h:NdL sz pl ph p=some r):OpOK P base N G st w (do pure (.value (←Instr.sliceAt t v lo hi none))) r st:=by
 have hrun:∀ (a:Option Addr) (n cap l h:Nat),(Instr.sliceBounds true n cap lo hi none).run P w=.ok (l,h,cap) w →
  (Instr.sliceAt t (.slice a n cap) lo hi none).run P w=.ok (.slice (if cap=l then a else a.map (·.add (l * sz))) (h - l) (cap - l)) w:=by
  intro a n cap l h hr;simp[Instr.sliceAt,Instr.slice,run_underlying hu,hr,NaS hn]
 cases hv with
 |nsl =>
   simp only[NdL]at h;split at h
   ·rename_i x y b1 b2;simp only[Sj]at h;subst h;have hx:x=0:=by
     cases ph with
     |none=>simp[Na4]at b1;exact b1.symm
     |some q=>cases q<;>simp[Na4]at b1;omega
    subst hx;obtain⟨hr,h1,h2⟩:=NbW (P:=P) hl hh (Nat.le_refl 0) (Nat.le_refl 0) b1 b2 true w;obtain rfl:y=0:=by omega
    exact OpOK.same hs (by simp[hrun none 0 0 0 0 hr]) .nsl
   ·simp at h
 |fnull a cap hm =>
   simp only[NdL]at h;split at h
   ·rename_i x b1;split at h
    ·rename_i y b2;split at h
     ·simp only[Sj]at h;subst h;obtain⟨hr,h1,h2⟩:=NbW (P:=P) hl hh (Nat.le_refl 0) (Nat.zero_le cap) b1 b2 true w;obtain rfl:y=0:=by omega
      obtain rfl:x=0:=by omega
      exact OpOK.same hs (v:=.slice (if cap=0 then a else a.map (·.add (0 * sz))) (0 - 0) (cap - 0)) (by simp only[Sem.run_bind,hrun a 0 cap 0 0 hr,Result.andThen_ok,Sem.run_pure]) (by simp only[Nat.sub_zero,Nat.zero_mul,List.take_zero];exact .fnull _ _ hm)
     ·simp at h
    ·simp at h
   ·simp at h
 |fsl b o n cap ps f hc hm hF hhh =>
   simp only[NdL]at h;split at h
   ·rename_i x b1;split at h
    ·rename_i y b2;split at h
     ·rename_i hlen;simp only[Sj]at h;subst h;obtain⟨hr,h1,h2⟩:=NbW (P:=P) hl hh (Nat.le_refl n) hc b1 b2 true w;refine OpOK.same hs (v:=.slice (if cap=y then some ⟨b,o,none⟩else(some ⟨b,o,none⟩:Option Addr).map (·.add (y * sz))) (x - y) (cap - y)) (by simp only[Sem.run_bind,hrun _ n cap y x hr,Result.andThen_ok,Sem.run_pure]) ?_;by_cases hxy:x - y=0
      ·rw[hxy,Nat.zero_mul,List.take_zero];exact .fnull _ _ Zaa
      ·rw[if_neg Zaa];simp only[Option.map_some,Addr.add_mid];refine .fsl b _ _ _ _ (fun i=>f (y * sz+i)) Zaa Zaa ?_ ?_
       ·intro i hi;simp at hi;rw[Nat.add_assoc];exact hF _ Zaa
       ·intro i q hq;rw[List.getElem?_take]at hq;split at hq
        ·rw[List.getElem?_drop]at hq;exact hhh _ q hq
        ·simp at hq
     ·simp at h
    ·simp at h
   ·simp at h
 |rsl k z off n blk size cap hB hc hm hz hz0 =>
   simp only[NdL]at h;split at h
   ·rename_i x b1;split at h
    ·rename_i y b2;obtain⟨hr,h1,h2⟩:=NbW (P:=P) hl hh (Nat.le_refl n) hc b1 b2 true w;split at h
     ·rename_i hcond;obtain⟨rfl,hcond⟩:=hcond;simp only[Sj]at h;subst h;have hadd:(cap - y) * z+y * z=cap * z:=(by rw[←Nat.add_mul];congr 1;omega);by_cases hy:cap=y
      ·have hy0:y=0:=(by omega);subst hy0;refine OpOK.same hs (v:=.slice (if cap=0 then some ⟨blk,off,none⟩else(some ⟨blk,off,none⟩:Option Addr).map (·.add (0 * z))) (x - 0) (cap - 0)) (by simp only[Sem.run_bind,hrun _ n cap 0 x hr,Result.andThen_ok,Sem.run_pure]) ?_;rw[if_pos hy,Nat.zero_mul,Nat.add_zero,Nat.sub_zero,Nat.sub_zero];exact .rsl k z off x blk size cap hB Zaa hm hz hz0
      ·refine OpOK.same hs (v:=.slice (if cap=y then some ⟨blk,off,none⟩else(some ⟨blk,off,none⟩:Option Addr).map (·.add (y * z))) (x - y) (cap - y)) (by simp only[Sem.run_bind,hrun _ n cap y x hr,Result.andThen_ok,Sem.run_pure]) ?_;rw[if_neg hy];simp only[Option.map_some,Addr.add_mid];exact .rsl k z _ _ blk size _ hB Zaa Zaa Zaa hz0
     ·split at h
      ·rename_i hcond hzz;subst hzz;simp only[Sj]at h;subst h;have hy:y=n:=(by simp at hcond;omega);subst hy;obtain rfl:x=y:=by omega
       refine OpOK.same hs (v:=.slice (if cap=x then some ⟨blk,off,none⟩else(some ⟨blk,off,none⟩:Option Addr).map (·.add (x * z))) (x - x) (cap - x)) (by simp only[Sem.run_bind,hrun _ x cap x x hr,Result.andThen_ok,Sem.run_pure]) ?_;rw[Nat.sub_self];exact .fnull _ _ Zaa
      ·simp at h
    ·simp at h
   ·simp at h
 |_=>simp[NdL]at h
theorem Nkv(hs:Sim G st w base){t:TypeId}(hu:P.underlying t=some .string){s:List UInt8}{lo hi:Option Value}{pl ph:Option PV}(hl:Nk8 G lo pl)(hh:Nk8 G hi ph){h l:Nat}(b1:Na4 ph s.length s.length=some h)(b2:Na4 pl 0 h=some l) :
 OpOK P base N G st w (do pure (.value (←Instr.sliceAt t (.string ⟨s.toArray⟩) lo hi none))) (.s ((s.drop l).take (h - l))) st:=by
 have hsz:(⟨s.toArray⟩:ByteArray).size=s.length:=by simp[ByteArray.size]
 obtain⟨hr,h1,h2⟩:=NbW (P:=P) hl hh (Nat.le_refl s.length) (Nat.le_refl s.length) b1 b2 false w;have e:(⟨s.toArray⟩:ByteArray).extract l h=⟨((s.drop l).take (h - l)).toArray⟩:=by
  apply ByteArray.ext;simp[ByteArray.data_extract,List.extract_toArray,List.extract_eq_take_drop]
 exact OpOK.same hs (v:=.string ⟨((s.drop l).take (h - l)).toArray⟩) (by simp[Instr.sliceAt,Instr.slice,run_underlying hu,hsz,hr,e]) (.s _)
end
section
variable {P:Program}{V:List Nat}{base:Nat}{N:Nat→Prop}{G:Ghost}{st:St}{w:World}
theorem Nft(off:Nat):∀ (vs:List Value) (j:Nat) (cells:Array Value),off+j+vs.length≤cells.size →
 ((vs.zipIdx j).foldl (fun cs (x:Value×Nat)=>cs.setIfInBounds (off+x.2) x.1) cells).toList=cells.toList.take (off+j)++vs++cells.toList.drop (off+j+vs.length)
 |[],j,cells,h=>by simp
 |v::r,j,cells,h=>by
   simp only[List.zipIdx_cons,List.foldl_cons];rw[Nft off r (j+1) (cells.setIfInBounds (off+j) v) (by simp at h ⊢;omega)];have ho:off+j<cells.toList.length:=(by simp at h ⊢;omega);simp only[Array.toList_setIfInBounds,List.length_cons];have e1:(cells.toList.set (off+j) v).take (off+(j+1))=cells.toList.take (off+j)++[v]:=by
    rw[show off+(j+1)=off+j+1 by omega,List.take_succ_eq_append_getElem (by simpa using ho)];simp[List.take_set_of_le]
   have e2:(cells.toList.set (off+j) v).drop (off+(j+1)+r.length)=cells.toList.drop (off+j+(r.length+1)):=by
    rw[List.drop_set_of_lt Zaa];congr 1;omega
   rw[e1,e2];simp
theorem Nem(place:Nat→Option (Nat×Nat)):∀ (parts:List (Nat×Value)) (ps:List (Nat×Nat×PV)) (cells:Array Value) (cs cs':List PV),CRel G cells.toList cs →
 parts.length=ps.length→(∀ (i:Nat) (x:Nat×Value) (y:Nat×Nat×PV),parts[i]? = some x→ps[i]? = some y→place x.1=some (y.1,y.2.1)∧VRel G x.2 y.2.2)→Nbi cs ps=some cs' →
 ∃ cells',Instr.fill place cells parts=some cells'∧CRel G cells'.toList cs'
 |[],ps,cells,cs,cs',hc,hl,hp,hf=>by
   cases ps with
   |cons y ps=>simp at hl
   |nil=>simp[Nbi]at hf;subst hf;exact⟨cells,rfl,hc⟩
 |(i,v)::parts,ps,cells,cs,cs',hc,hl,hp,hf=>by
   cases ps with
   |nil=>simp at hl
   |cons y ps =>
     obtain⟨off,n,p⟩:=y;simp only[Nbi]at hf;split at hf
     ·rename_i hcond;obtain⟨h1,h2,h3⟩:=hcond;obtain⟨hpl,hv⟩:=hp 0 _ _ rfl rfl;simp only[]at hpl hv;obtain⟨hcv,_⟩:=hv.cells h3;have hvl:v.cells.size=n:=(by have:=hcv.1;simp at this;omega);have hcl:=hc.1;have hfold:=Nft off v.cells.toList 0 cells (by simp at hcl ⊢;omega);have e0:(v.cells.zipIdx.foldl (fun cs (x:Value×Nat)=>cs.setIfInBounds (off+x.2) x.1) cells).toList=cells.toList.take off++v.cells.toList++cells.toList.drop (off+n):=by
       rw[←Array.foldl_toList,Array.toList_zipIdx];simp only[Nat.add_zero]at hfold;rw[hfold];simp[hvl]
      obtain⟨cells',g1,g2⟩:=Nem place parts ps (v.cells.zipIdx.foldl (fun cs (x:Value×Nat)=>cs.setIfInBounds (off+x.2) x.1) cells) _ cs' (by rw[e0];exact((hc.take off).append hcv).append (hc.drop (off+n))) (by simpa using hl)
       (fun i x y hx hy=>hp (i+1) x y (by simpa using hx) (by simpa using hy)) hf
      refine⟨cells',?_,g2⟩;simp only[Instr.fill,hpl];rw[if_neg (by simp at hcl;simp[hvl];omega)];exact g1
     ·simp at hf
theorem Ne8(hs:Sim G st w base){t:TypeId}{fs:Array Field}(hu:P.underlying t=some (.struct fs)){z:List PV}(hz:zeroT P t=some z){parts:List (Nat×Value)}{ps:List (Nat×Nat×PV)}(hl:parts.length=ps.length)
 (hp:∀ (i:Nat) (x:Nat×Value) (y:Nat×Nat×PV),parts[i]? = some x→ps[i]? = some y→(∃ f,fs[x.1]? = some f∧y.1=f.offset∧sizeT P f.type=some y.2.1)∧VRel G x.2 y.2.2)
 (hall:∀ f∈fs.toList,(sizeT P f.type).isSome) {cs:List PV}(hf:Nbi z ps=some cs):OpOK P base N G st w (do pure (.value (←Instr.build t parts.toArray))) (.agg cs) st:=by
 obtain⟨v,i,hi,hv,hlen,hc,hsz,_,hrun⟩:=NbM (G:=G) hz;have hmap:(fs.mapM fun f=>do pure (f.offset,←sizeOf f.type):Sem (Array (Nat×Nat))).run P w=.ok (fs.toList.map fun f=>(f.offset,(sizeT P f.type).getD 0)).toArray w:=by
  rw[Array.mapM_eq_mapM_toList];have:∀ l:List Field,(∀ f∈l,(sizeT P f.type).isSome)→(l.mapM (fun f=>Prod.mk f.offset <$> sizeOf f.type):Sem (List (Nat×Nat))).run P w=.ok (l.map fun f=>(f.offset,(sizeT P f.type).getD 0)) w:=by
   intro l
   induction l with
   |nil=>intro _;rfl
   |cons f l ih =>
     intro h;obtain⟨n,hn⟩:=Option.isSome_iff_exists.1 (h f List.mem_cons_self);simp[List.mapM_cons,NaS hn,ih (fun g hg=>h g (List.mem_cons_of_mem _ hg)),hn]
  simp[this _ hall]
 obtain⟨cells',g1,g2⟩:=Nem (G:=G) ((fs.toList.map fun f=>(f.offset,(sizeT P f.type).getD 0)).toArray[·]?) parts ps v.cells z cs hc hl (fun i x y hx hy=>by
  obtain⟨⟨f,hf1,hf2,hf3⟩,hf4⟩:=hp i x y hx hy;refine⟨?_,hf4⟩;have:fs.toList[x.1]? = some f:=by simpa using hf1
  simp[this,hf2,hf3]) hf
 refine OpOK.same hs (v:=.agg cells') ?_ (VRel.agg_c g2);simp only[Instr.build,Sem.run_bind,hrun,Result.andThen_ok,run_underlying hu,hmap,g1,Sem.run_pure]
theorem Nfl(hs:Sim G st w base){t e:TypeId}{n:Nat}(hu:P.underlying t=some (.array n e)){z:List PV}(hz:zeroT P t=some z){sz:Nat}(hn:sizeT P e=some sz){parts:List (Nat×Value)}{ps:List (Nat×Nat×PV)}(hl:parts.length=ps.length)
 (hp:∀ (i:Nat) (x:Nat×Value) (y:Nat×Nat×PV),parts[i]? = some x→ps[i]? = some y→y.1=x.1 * sz∧y.2.1=sz∧VRel G x.2 y.2.2)
 {cs:List PV}(hf:Nbi z ps=some cs):OpOK P base N G st w (do pure (.value (←Instr.build t parts.toArray))) (.agg cs) st:=by
 obtain⟨v,i,hi,hv,hlen,hc,hsz,_,hrun⟩:=NbM (G:=G) hz;obtain⟨cells',g1,g2⟩:=Nem (G:=G) (fun i=>some (i * sz,sz)) parts ps v.cells z cs hc hl (fun i x y hx hy=>by
  obtain⟨a,b,c⟩:=hp i x y hx hy;exact⟨by rw[a,b],c⟩) hf
 refine OpOK.same hs (v:=.agg cells') ?_ (VRel.agg_c g2);simp only[Instr.build,Sem.run_bind,hrun,Result.andThen_ok,run_underlying hu,NaS hn,g1,Sem.run_pure]
theorem Nid{z:Array Value}{cs:List PV}(hc:CRel G z.toList cs)(hp:0<z.size):∀ n,CRel G (madeCells z (n * z.size)).toList (List.flatten (List.replicate n cs)):=by
 have hl:=hc.1;have hlen:∀ n,(List.flatten (List.replicate n cs)).length=n * z.size:=by
  intro n;simp at hl;simp[hl]
 intro n;refine⟨by rw[hlen];simp[madeCells],?_⟩;intro i v p hv hp2;have hi:i<n * z.size:=by
  have:=(List.getElem?_eq_some_iff.1 hp2).1;rwa[hlen]at this
 have hv':v=z[i % z.size]!:=by
  have:=(List.getElem?_eq_some_iff.1 hv).2;simp[madeCells]at this;exact this.symm
 have him:i % z.size<z.size:=Nat.mod_lt _ hp;have hp3:cs[i % z.size]? = some p:=by
  rw[←hp2];clear hp2 hv hv'
  induction n generalizing i with
  |zero=>simp at hi
  |succ n ih =>
    rw[List.replicate_succ,List.flatten_cons];simp at hl;by_cases h:i<z.size
    ·rw[List.getElem?_append_left Zaa,Nat.mod_eq_of_lt h]
    ·rw[List.getElem?_append_right Zaa,←hl];have e:i % z.size=(i - z.size) % z.size:=(by rw[Nat.mod_eq_sub_mod Zaa]);rw[e];exact ih (i:=i - z.size) (by rw[Nat.succ_mul]at hi;omega) (Nat.mod_lt _ hp)
 rw[hv',getElem!_pos z _ him];exact hc.2 (i % z.size) _ p (by simp[him]) hp3
theorem Nkr(hs:Sim G st w base){t e:TypeId}(hu:P.underlying t=some (.slice e)){sz:Nat}(hn:sizeT P e=some sz){z:List PV}(hz:zeroT P e=some z){len:Nat}(hlen:len * sz≤16777216)(hsz:0<sz){parts:List (Nat×Value)}{ps:List (Nat×Nat×PV)}(hl:parts.length=ps.length)
 (hp:∀ (i:Nat) (x:Nat×Value) (y:Nat×Nat×PV),parts[i]? = some x→ps[i]? = some y→y.1=x.1 * sz∧y.2.1=sz∧VRel G x.2 y.2.2) {cs:List PV}(hf:Nbi (List.flatten (List.replicate len z)) ps=some cs) (hcs:cs.length=len * sz) (key:Nat) (hN:N key) (hk:G.B key=none) :
 OpOK P base N G st w (do pure (.value (←Instr.buildSlice t len parts.toArray))) (.rsl key sz 0 len) (st.put key (some (.cells cs false))):=by
 obtain⟨v,i,hi,hv,hlz,hc,hvs,_,hrun⟩:=NbM (G:=G) hz;have his:i.size=sz:=by
  obtain⟨i',hi',hs'⟩:=Option.map_eq_some_iff.1 hn;rw[hi]at hi';simp at hi';subst hi';exact hs'
 have hflat:=Nid hc Zaa len;rw[hvs,his]at hflat;obtain⟨cells',g1,g2⟩:=Nem (G:=G) (fun i=>some (i * sz,sz)) parts ps (madeCells v.cells (len * sz)) _ cs hflat hl (fun i x y hx hy=>by
  obtain⟨a,b,c⟩:=hp i x y hx hy;exact⟨by rw[a,b],c⟩) hf
 have hcl:cells'.size=len * sz:=by have:=g2.1;simp at this;omega
 obtain⟨G',hB,hst⟩:=Step.alloc hs key hN hk cs cells' e (0,0) (.inl rfl) Zaa (by rw[List.take_of_length_le (by simp;omega)];exact g2);refine⟨.value (.slice (some ⟨w.heap.size,0,none⟩) len len),_,G',?_,.inl ⟨_,rfl,?_⟩,hst⟩
 ·have hb:¬ len * sz > 2 ^ 24:=by omega
  simp only[Instr.buildSlice,Sem.run_bind,run_underlying hu,Result.andThen_ok,NaS hn];rw[Sem.run_ite,if_neg hb];by_cases h0:len * sz=0
  ·have e0:∀ z:Array Value,madeCells z 0=#[]:=(by intro z;simp[madeCells]);rw[h0,e0]at g1;simp[h0,g1,newRow,Array.range_zero']
  ·have hne:¬ len * sz=0:=h0;simp only[madeCells]at g1;simp[hne,hrun,g1,newRow]
 ·refine .rsl key sz 0 len w.heap.size cells'.size len hB (Nat.le_refl _) ?_ Zaa hsz;have:len≤len * sz:=Nat.le_mul_of_pos_right _ hsz;unfold maxLen;omega
theorem Njb{ik:IntKind}(hs:Sim G st w base){t e:TypeId}(hu:P.underlying t=some (.slice e)){sz bytes:Nat}(hn:sizeT P e=some sz)(hby:bytesT P e=some bytes){z:List PV}(hz:zeroT P e=some z){n:Int}(h0:0≤n)(h1:n.toNat * bytes≤maxBytes)(h2:0<bytes)(h3:z.length=sz)(h4:0<sz)(key:Nat)(hN:N key)(hk:G.B key=none) :
 OpOK P base N G st w (do pure (.value (←Instr.makeSlice t (.int ik n) (.int ik n)))) (.rsl key sz 0 n.toNat) (st.put key (some (.cells (List.flatten (List.replicate n.toNat z)) false))):=by
 obtain⟨v,i,hi,hv,hlz,hc,hvs,_,hrun⟩:=NbM (G:=G) hz;obtain⟨i1,hi1,hs1⟩:=Option.map_eq_some_iff.1 hn;obtain⟨i2,hi2,hs2⟩:=Option.map_eq_some_iff.1 hby;rw[hi]at hi1 hi2;simp at hi1 hi2;subst hi1;subst hi2;unfold maxBytes at h1;have hb1:n.toNat≤n.toNat * bytes:=Nat.le_mul_of_pos_right _ h2;have hbb:(i.bytes:Int) * n≤281474976710656:=by
  obtain⟨m,rfl⟩:=Int.eq_ofNat_of_zero_le h0;rw[hs2];have:((bytes * m:Nat):Int)≤281474976710656:=by simp at h1;rw[Nat.mul_comm];omega
  rwa[Int.natCast_mul]at this
 have hr:=run_make (P:=P) w t e i v hu hi hv ik ik n n h0 (Int.le_refl _) hbb Zaa;have hflat:=Nid hc Zaa n.toNat;rw[hvs]at hflat;obtain⟨G',hB,hst⟩:=Step.alloc hs key hN hk (List.flatten (List.replicate n.toNat z)) (madeCells v.cells (n.toNat * i.size)) e (0,0) (.inl rfl) (by have:=hflat.1;simp only[Array.length_toList]at this;omega) (by rw[List.take_of_length_le (by have:=hflat.1;omega)];exact hflat);refine⟨.value (.slice (some ⟨w.heap.size,0,none⟩) n.toNat n.toNat),_,G',by simp[hr],.inl ⟨_,rfl,?_⟩,hst⟩;exact .rsl key sz 0 n.toNat w.heap.size _ n.toNat hB (Nat.le_refl _) (by unfold maxLen;omega) (by simp[madeCells,hs1]) h4
end
section
variable {P:Program}{V:List Nat}{base:Nat}{N:Nat→Prop}{G:Ghost}{st:St}{w:World}
theorem NeC(G:Ghost):∀ l:List UInt8,CRel G (NaP l) (Nbs l)
 |[]=>.nil
 |c::l=>.cons (.i _ _) (NeC G l)
theorem Ndo(l:List UInt8):(Nbs l).length=l.length:=by simp[Nbs]
theorem NfM(s:List UInt8)(cap:Nat):(bytesRow ⟨s.toArray⟩ cap).toList.take s.length=NaP s:=by
 have:(bytesRow ⟨s.toArray⟩ cap).toList=NaP s++List.replicate (cap - s.length) (.int .u8 0):=by
  simp[bytesRow,NaP,ByteArray.size]
 rw[this,List.take_append_of_le_length Zaf];exact List.take_of_length_le Zaf
theorem NpM(hs:Sim G st w base){src dst e:TypeId}(h1:P.underlying src=some .string)(h2:P.underlying dst=some (.slice e))(he:P.underlying e=some (.int .u8)){l:List UInt8}(hl:l.length≤maxBytes)(key:Nat)(hN:N key)(hk:G.B key=none) :
 OpOK P base N G st w (do pure (.value (←convert src dst (.string ⟨l.toArray⟩)))) (.rsl key 1 0 l.length) (st.put key (some (.cells (Nbs l) false))):=by
 have hsz:(⟨l.toArray⟩:ByteArray).size=l.length:=by simp[ByteArray.size]
 have hr:=run_bytes_of_string (P:=P) w src dst e ⟨l.toArray⟩ h1 h2 he;rw[hsz]at hr;have hc1:=grownCap_ge w l.length 0 e;have hc2:=grownCap_le_maxLen w l.length 0 e (by unfold maxBytes at hl;unfold maxLen;omega);have hrow:(bytesRow ⟨l.toArray⟩ (grownCap w l.length 0 e)).size=grownCap w l.length 0 e:=by
  simp[bytesRow,ByteArray.size];omega
 obtain⟨G',hB,hst⟩:=Step.alloc (w:=w.drew) (hs.drewN 1) key hN hk (Nbs l) (bytesRow ⟨l.toArray⟩ (grownCap w l.length 0 e)) e ((bytesRow ⟨l.toArray⟩ (grownCap w l.length 0 e)).size,(bytesRow ⟨l.toArray⟩ (grownCap w l.length 0 e)).size+1) (.inr (Nat.le_refl _))
  (by rw[hrow,Ndo];exact hc1) (by rw[Ndo,NfM];exact NeC G l)
 refine⟨.value (.slice (some ⟨w.heap.size,0,none⟩) l.length (grownCap w l.length 0 e)),_,G',by simp only[Sem.run_bind,hr,Result.andThen_ok,Sem.run_pure],.inl ⟨_,rfl,?_⟩,(Step.drew hs).trans hst (fun _ h=>h) (fun _ h=>h)⟩;exact .rsl key 1 0 l.length w.heap.size _ _ hB hc1 hc2 (by rw[hrow];omega) Zaa
theorem Sim.appended(hs:Sim G st w base){k:Nat}{cs:List PV}{blk size:Nat}(hg:st.get k=some (.cells cs false))(hB:G.B k=some (blk,size)){news:List PV}{nv:List Value}(hn:CRel G nv news)(hfit:cs.length+news.length≤size)(key:Nat)(hN:N key)(hk:G.B key=none) :
 ∃ G',G'.B key=some (blk,size)∧Step base N G st w G' ((st.put k none).put key (some (.cells (cs++news) false))) (w.setCells blk cs.length nv):=by
 obtain⟨cur,ty,m,g1,g2,g3,g4,g5⟩:=hs.cells k cs false blk size hg hB;have hnl:=hn.1;obtain⟨⟨cur',f1,f2⟩,f3,f4,f5,f6,f7⟩:=Nbg blk nv cs.length w cur ty m g1 Zaa;have hsz':cur'.size=size:=by
  have:=congrArg List.length f2;simp at this;omega
 refine Step.write hs k key (.inr hN) cs blk size hg hB (.inr hk) (cs++news) cur' ty m f1 (by rcases g2 with rfl|g2;exact .inl rfl;exact .inr (by omega)) hsz' Zak ?_ f3 f4 f5 f6 f7;have e:cur'.toList.take (cs++news).length=cur.toList.take cs.length++nv:=by
  rw[f2];exact List.take_left' Zak
 rw[e];exact g5.append hn
theorem NmV(hs:Sim G st w base){sz:Nat}{tx e':TypeId}(hk:P.underlying tx=some (.slice e')){v:Value}{p:PV}(hv:VRel G v p){m:Nat}{cs:List PV}(hc:cellsOf st sz p=some (m,cs))(h1:cs.all PV.one=true) :
 ∃ nv,CRel G nv cs∧cs.length=m * sz∧Src P sz tx v m nv w:=by
 obtain⟨a,cap,vs,rfl,g1,g2,g3,g4,g5,g6⟩:=Nds hs hv hc;have hone:∀ u∈vs,u.oneCell'=true:=by
  intro u hu;obtain⟨i,hi,rfl⟩:=List.getElem_of_mem hu;have hi':i<cs.length:=by rw[←g3.1];exact hi
  exact(g3.2 i vs[i] cs[i] (List.getElem?_eq_getElem hi) (List.getElem?_eq_getElem hi')).one ((List.all_eq_true.1 h1) _ (List.getElem_mem _))
 refine⟨vs,g3,by rw[←g3.1];exact g4,?_⟩;cases a with
 |none =>
   have:=g5 rfl;subst this;have:vs=[]:=List.eq_nil_of_length_eq_zero (by simpa using g4);subst this;exact Src.ofNil w hk cap
 |some ad =>
   refine Src.ofSlice w hk ad m cap vs g4 ?_ hone;intro j u hu;have hj:j<vs.length:=(List.getElem?_eq_some_iff.1 hu).1;obtain⟨b,o,e,hr⟩:=g6 Zaa;simp only[Sj]at e;subst e;rw[Addr.add_mid];exact hr j u hu
theorem NgV(hs:Sim G st w base){t tx ty e:TypeId}(hu:P.underlying t=some (.slice e)){sz bytes:Nat}(hn:sizeT P e=some sz)(hby:bytesT P e=some bytes){z:List PV}(hz:zeroT P e=some z){x:Value}{m:Nat}{nv:List Value}{news:List PV}(hsrc:Src P sz tx x m nv w)(hnews:CRel G nv news)(hml:news.length=m * sz)
 (hsz:0<sz) (hb0:0<bytes) {v:Value}{p r:PV}{st':St}(hv:VRel G v p) (key:Nat) (hN:N key) (hk:G.B key=none)
 (h:Nbj st key sz bytes m news p=some (r,st')):OpOK P base N G st w (do pure (.value (←Builtin.append_ #[t,tx] ty #[v,x]))) r st':=by
 obtain⟨zv,i,hi,hzv,hlz,hzc,hvs,_,hrun⟩:=NbM (G:=G) hz;obtain⟨i1,hi1,hs1⟩:=Option.map_eq_some_iff.1 hn;obtain⟨i2,hi2,hs2⟩:=Option.map_eq_some_iff.1 hby;rw[hi]at hi1 hi2;simp at hi1 hi2;subst hi1;subst hi2;subst hs1;subst hs2;have grow:∀ (a:Option Addr) (n cap:Nat) (olds:List Value) (cs:List PV) (st0:St),Sim G st0 w base→n≤cap→cap<n+m→(n+m) * i.bytes≤maxBytes→CRel G olds cs→cs.length=n * i.size →
  (Builtin.firstCells i.size n (.slice a n cap)).run P w.drew=.ok olds.toArray w.drew →
  OpOK P base N G st0 w (do pure (.value (←Builtin.append_ #[t,tx] ty #[.slice a n cap,x]))) (.rsl key i.size 0 (n+m)) (st0.put key (some (.cells (cs++news) false))):=by
  intro a n cap olds cs st0 hs0 hnc hg hbb hold hol hfc;unfold maxBytes at hbb;have h63:n+m≤(n+m) * i.bytes:=Nat.le_mul_of_pos_right _ hb0;have hr:=run_append_grow_src (P:=P) w t tx ty e i zv hu hi hzv a n cap olds hfc x m nv hsrc hg Zaa (growslice_fits hg hbb);have hc1:=grownCap_ge w (n+m) cap e;have hc2:=grownCap_le_maxLen w (n+m) cap e (by unfold maxLen;omega);have hll:(olds++nv).length=(n+m) * i.size:=by
   have h1:=hold.1;have h2:=hnews.1;simp;rw[Nat.add_mul];omega
  have hcur:((olds++nv).toArray++Builtin.zeroCells zv.cells (grownCap w (n+m) cap e - (n+m))).size=grownCap w (n+m) cap e * i.size:=by
   rw[Array.size_append,List.size_toArray,hll,size_zeroCells,hvs,←Nat.add_mul];congr 1;omega
  have hle:(n+m) * i.size≤grownCap w (n+m) cap e * i.size:=Nat.mul_le_mul_right _ hc1;have hcl:(cs++news).length=(n+m) * i.size:=by simp;rw[Nat.add_mul];omega
  obtain⟨G',hB,hst⟩:=Step.alloc (w:=w.drew) (hs0.drewN 1) key hN hk (cs++news) _ e (0,0) (.inl rfl) (by rw[hcl,hcur];exact hle) (by
   rw[Array.toList_append,hcl,List.take_append_of_le_length (by simp at hll ⊢;omega),List.take_of_length_le (by simp at hll ⊢;omega)];exact hold.append hnews)
  refine⟨.value (.slice (some ⟨w.heap.size,0,none⟩) (n+m) (grownCap w (n+m) cap e)),_,G',by simp only[Sem.run_bind,hr,Result.andThen_ok,Sem.run_pure],.inl ⟨_,rfl,?_⟩,(Step.drew hs0).trans hst (fun _ h=>h) (fun _ h=>h)⟩;exact .rsl key i.size 0 (n+m) w.heap.size _ _ hB hc1 hc2 (by rw[hcur];omega) hsz
 cases hv with
 |nsl =>
   simp only[Nbj]at h;split at h
   ·rename_i h0;simp only[Sj,Pj]at h;obtain⟨rfl,rfl⟩:=h;subst h0;have hk0:(∃ e',P.underlying tx=some (.slice e'))∨P.underlying tx=some .string:=hsrc.kind;have hnv:nv=[]:=List.eq_nil_of_length_eq_zero (by have:=hsrc.newsLen;simpa using this);subst hnv;have hcells:=hsrc.cells;refine OpOK.same hs (v:=.slice none 0 0) ?_ .nsl;rcases hk0 with⟨e',hk⟩|hk<;>simp[Builtin.append_,run_underlying hu,run_underlying hk,sizeOf,typeInfo,hi,hsrc.len,hcells]
   ·split at h
    ·rename_i h0 hbb;simp only[Sj,Pj]at h;obtain⟨rfl,rfl⟩:=h;have:=grow none 0 0 [] [] st hs (Nat.le_refl _) Zaa (by simpa using hbb) .nil Zaf (by simp[Builtin.firstCells]);simpa using this
    ·simp at h
 |rsl k z off n blk size cap hB hc hm hz hz0 =>
   simp only[Nbj]at h;split at h
   ·rename_i cs hg;split at h
    ·rename_i hcond;obtain⟨rfl,rfl,hcl,hbb⟩:=hcond;simp only[Sj,Pj]at h;obtain⟨rfl,rfl⟩:=h;obtain⟨cur,ty0,m0,g1,g2,g3,g4,g5⟩:=hs.cells k cs false blk size hg hB;by_cases hroom:n+m≤cap
     ·have hfit:(n+m) * i.size≤cap * i.size:=Nat.mul_le_mul_right _ hroom;rw[Nat.add_mul]at hfit;have hnl:=hnews.1;have hr:=run_append_room_src (P:=P) w t tx ty e i hu hi blk 0 n cap x m nv hsrc hroom
       (by intro j hj;have:0+n * i.size+j<cur.size:=by omega
           simp[World.cell?,g1];omega)
       (by intro j hj
           simp only[World.frozen?,g1];rcases g2 with rfl|g2
           ·simp
           ·simp;omega)
      rw[Nat.zero_add,←hcl]at hr;obtain⟨G',hB',hst⟩:=hs.appended hg hB hnews Zaa key hN hk;refine⟨.value (.slice (some ⟨blk,0,none⟩) (n+m) cap),_,G',by simp only[Sem.run_bind,hr,Result.andThen_ok,Sem.run_pure],.inl ⟨_,rfl,?_⟩,hst⟩;exact .rsl key i.size 0 (n+m) blk size cap hB' hroom hm hz hsz
     ·have hlk:cs.length≤cur.toList.length:=by simp;omega
      -- the old name is forgotten ahead
      have hs0:Sim G (st.put k none) w base:=by
       refine⟨hs.bas,hs.frz,?_,?_,?_,?_,?_,?_⟩
       rotate_right 1
       ·intro k' es' b s h' hB';rcases St.get_put h' with⟨_,e⟩|⟨_,h''⟩
        ·simp at e
        ·exact hs.mps k' es' b s h'' hB'
       ·intro k' cs' z' b s h' hB';rcases St.get_put h' with⟨_,e⟩|⟨_,h''⟩
        ·simp at e
        ·exact hs.cells k' cs' z' b s h'' hB'
       ·intro k' cs' b s h' hB';rcases St.get_put h' with⟨_,e⟩|⟨_,h''⟩
        ·simp at e
        ·exact hs.frzd k' cs' b s h'' hB'
       ·intro k' cs' b s h' hB';rcases St.get_put h' with⟨_,e⟩|⟨_,h''⟩
        ·simp at e
        ·exact hs.free k' cs' b s h'' hB'
       ·have hsome:∀ j,((st.put k none).get j).isSome→(st.get j).isSome:=by
         intro j hj;obtain⟨q,hq⟩:=Option.isSome_iff_exists.1 hj;rcases St.get_put hq with⟨_,e⟩|⟨_,h''⟩
         ·simp at e
         ·rw[h''];rfl
        intro a b q q' ha hb;exact hs.inj a b q q' (hsome a ha) (hsome b hb)
       ·have hsome:∀ j,((st.put k none).get j).isSome→(st.get j).isSome:=by
         intro j hj;obtain⟨q,hq⟩:=Option.isSome_iff_exists.1 hj;rcases St.get_put hq with⟨_,e⟩|⟨_,h''⟩
         ·simp at e
         ·rw[h''];rfl
        intro a q ha;exact hs.low a q (hsome a ha)
      have hfc:(Builtin.firstCells i.size n (.slice (some ⟨blk,0,none⟩) n cap)).run P w.drew=.ok (cur.toList.take cs.length).toArray w.drew:=by
       refine run_firstCells_some (P:=P) w.drew i.size n ⟨blk,0,none⟩ n cap (cur.toList.take cs.length) (by simp at hlk;simp;omega) ?_;intro j u hj;rw[Addr.add_mid];rw[List.getElem?_take]at hj;split at hj
       ·have:cur[j]? = some u:=(by simpa using hj);show w.cell? _=_;simp[World.cell?,g1,this]
       ·simp at hj
      obtain⟨n1,w1,G1,e1,e2,e3⟩:=grow (some ⟨blk,0,none⟩) n cap (cur.toList.take cs.length) cs (st.put k none) hs0 hc Zaa hbb g5 hcl hfc;refine⟨n1,w1,G1,e1,e2,?_⟩
      -- with the old name
      have hkk:(st.get k).isSome:=(by rw[hg];rfl);refine⟨e3.le,e3.new,e3.sim,e3.os,e3.tape,e3.output,e3.size,?_,?_,?_,?_⟩
      ·intro j hj hno;refine e3.kept j hj ?_;intro a q ha hBa;refine hno a q ?_ hBa;obtain⟨y,hy⟩:=Option.isSome_iff_exists.1 ha;rcases St.get_put hy with⟨_,e⟩|⟨_,h''⟩
       ·simp at e
       ·rw[h''];rfl
      ·intro a q ha hBa;rcases e3.own a q ha hBa with h1|⟨k0,x0,a1,a2,a3⟩
       ·exact .inl h1
       ·refine .inr ⟨k0,x0,?_,a2,a3⟩;obtain⟨y,hy⟩:=Option.isSome_iff_exists.1 a1;rcases St.get_put hy with⟨_,e⟩|⟨_,h''⟩
        ·simp at e
        ·rw[h''];rfl
      ·intro b o u hu';rcases e3.fnew b o u hu' with h1|h1|⟨k0,x0,a1,a2,a3⟩
       ·exact .inl h1
       ·exact .inr (.inl h1)
       ·refine .inr (.inr ⟨k0,x0,?_,a2,a3⟩);obtain⟨y,hy⟩:=Option.isSome_iff_exists.1 a1;rcases St.get_put hy with⟨_,e⟩|⟨_,h''⟩
        ·simp at e
        ·rw[h''];rfl
      ·intro a ha;rcases e3.ful a ha with h1|h1
       ·left;obtain⟨y,hy⟩:=Option.isSome_iff_exists.1 h1;rcases St.get_put hy with⟨_,e⟩|⟨_,h''⟩
        ·simp at e
        ·rw[h''];rfl
       ·exact .inr h1
    ·simp at h
   ·simp at h
 |_=>simp[Nbj]at h
theorem Nog(hs:Sim G st w base){t tx ty e e':TypeId}(hu:P.underlying t=some (.slice e))(hux:P.underlying tx=some (.slice e')){sz:Nat}(hn:sizeT P e=some sz){d x:Value}{pd px:PV}(hd:VRel G d pd)(hx:VRel G x px){m:Nat}{cs:List PV}(hc:cellsOf st sz px=some (m,cs)){r:PV}{st':St}
 (h:NdA st sz m cs pd=some (r,st')):OpOK P base N G st w (do pure (.value (←Builtin.copy_ #[t,tx] ty #[d,x]))) r st':=by
 obtain⟨a,cap,vs,rfl,g1,g2,g3,g4,g5,g6⟩:=Nds hs hx hc;have hfc:∀ q,q≤m→(Builtin.firstCells sz q (.slice a m cap)).run P w=.ok (vs.take (q * sz)).toArray w:=by
  intro q hq;have hqs:q * sz≤m * sz:=Nat.mul_le_mul_right _ hq;cases a with
  |none =>
    have:=g5 rfl;subst this;have:vs=[]:=List.eq_nil_of_length_eq_zero (by simpa using g4);subst this;simp[Builtin.firstCells]
  |some ad =>
    refine run_firstCells_some (P:=P) w sz q ad m cap (vs.take (q * sz)) Zak ?_;intro j u hj;rw[List.getElem?_take]at hj;split at hj
    ·have hjl:j<vs.length:=(List.getElem?_eq_some_iff.1 hj).1;obtain⟨b,o,e,hr⟩:=g6 Zaa;simp only[Sj]at e;subst e;rw[Addr.add_mid];exact hr j u hj
    ·simp at hj
 have hzero:∀ (b:Option Addr) (dc:Nat),(Builtin.copy_ #[t,tx] ty #[.slice b 0 dc,.slice a m cap]).run P w=.ok (.int .i64 0) w:=by
  intro b dc;have h0:=hfc 0 (Nat.zero_le _);simp at h0;cases b<;>simp[Builtin.copy_,run_underlying hu,Builtin.lenOf,NaS hn,h0,storeCells,goInt]
 cases hd with
 |nsl =>
   simp only[NdA,Sj,Pj]at h;obtain⟨rfl,rfl⟩:=h;exact OpOK.same hs (by simp[hzero]) (.i _ _)
 |fnull b dc hm =>
   simp only[NdA,Sj,Pj]at h;obtain⟨rfl,rfl⟩:=h;exact OpOK.same hs (by simp[hzero]) (.i _ _)
 |fsl b o n dc ps f hc' hm hF hh =>
   cases n with
   |zero =>
     simp only[NdA,Sj,Pj]at h;obtain⟨rfl,rfl⟩:=h;exact OpOK.same hs (by simp[hzero]) (.i _ _)
   |succ n=>simp[NdA]at h
 |rsl k z off n blk size dc hB hc' hm hz hz0 =>
   simp only[NdA]at h;split at h
   ·rename_i l hg;split at h
    ·rename_i hcond;obtain⟨rfl,hfit,hall⟩:=hcond;simp only[Sj,Pj]at h;obtain⟨rfl,rfl⟩:=h;obtain⟨cur,ty0,m0,f1,f2,f3,f4,f5⟩:=hs.cells k l false blk size hg hB;obtain⟨q,hq⟩:∃ q,Nat.min m n=q:=⟨_,rfl⟩;have hqm:q≤m:=(by rw[←hq];exact Nat.min_le_left _ _);have hqn:q≤n:=(by rw[←hq];exact Nat.min_le_right _ _);have hqz:q * z≤n * z:=Nat.mul_le_mul_right _ hqn;have hqz2:q * z≤m * z:=Nat.mul_le_mul_right _ hqm;rw[hq];have hvl:(vs.take (q * z)).length=q * z:=(by simp;omega);have hone:∀ u∈vs.take (q * z),u.oneCell'=true:=by
      intro u hu';have hu':=List.mem_of_mem_take hu';obtain⟨i,hi,rfl⟩:=List.getElem_of_mem hu';have hi':i<cs.length:=(by rw[←g3.1];exact hi);exact(g3.2 i vs[i] cs[i] (List.getElem?_eq_getElem hi) (List.getElem?_eq_getElem hi')).one ((List.all_eq_true.1 hall) _ (List.getElem_mem _))
     have hst:=run_storeCells_cells (P:=P) blk off (vs.take (q * z)) 0 w
      (by intro j hj;rw[hvl]at hj;simp[World.cell?,f1];omega)
      (by intro j hj;rw[hvl]at hj
          simp only[World.frozen?,f1];rcases f2 with rfl|f2
          ·simp
          ·simp;omega) hone
     rw[Nat.add_zero]at hst;have hrun:(Builtin.copy_ #[t,tx] ty #[.slice (some ⟨blk,off,none⟩) n dc,.slice a m cap]).run P w=.ok (.int .i64 (q:Int)) (w.setCells blk off (vs.take (q * z))):=by
      simp[Builtin.copy_,run_underlying hu,Builtin.lenOf,NaS hn,hq,hfc q hqm,hst,goInt]
     obtain⟨⟨cur',e1,e2⟩,e3,e4,e5,e6,e7⟩:=Nbg blk (vs.take (q * z)) off w cur ty0 m0 f1 (by rw[hvl];omega);have hsz':cur'.size=size:=by
      have:=congrArg List.length e2;simp only[Array.length_toList,List.length_append,List.length_take,List.length_drop,hvl]at this;omega
     have hcsl:cs.length=m * z:=(by rw[←g3.1];exact g4);have hll:(l.take off++cs.take (q * z)++l.drop (off+q * z)).length=l.length:=(by simp;omega);obtain⟨G',hB',hst'⟩:=Step.write hs k k (N:=N) (.inl rfl) l blk size hg hB (.inl rfl) (l.take off++cs.take (q * z)++l.drop (off+q * z)) cur' ty0 m0 e1 (by rcases f2 with rfl|f2;exact .inl rfl;exact .inr (by omega)) hsz' Zaa (by
      rw[hll,e2,hvl];have e8:((cur.toList.take off++vs.take (q * z)++cur.toList.drop (off+q * z)).take l.length)=(cur.toList.take l.length).take off++vs.take (q * z)++(cur.toList.take l.length).drop (off+q * z):=by
       rw[List.take_append,List.take_append,List.take_take,List.drop_take]
       congr 1
       ·congr 1
        ·rw[List.take_take];congr 1;omega
        ·rw[List.take_of_length_le];rw[hvl];simp;omega
       ·congr 1;rw[List.length_append,hvl];simp;omega
      rw[e8];exact((f5.take off).append (g3.take _)).append (f5.drop _)) e3 e4 e5 e6 e7
     rw[St.put_put]at hst';exact⟨_,_,G',by simp only[Sem.run_bind,hrun,Result.andThen_ok,Sem.run_pure],.inl ⟨_,rfl,.i _ _⟩,hst'⟩
    ·simp at h
   ·simp at h
 |_=>simp[NdA]at h
end
section
variable {P:Program}{V:List Nat}{base:Nat}{N:Nat→Prop}{G:Ghost}{st:St}{w:World}
theorem Ngt(a c:List UInt8):((⟨a.toArray⟩:ByteArray)==⟨c.toArray⟩)=(a==c):=by rw[beq_toListBytes,NdN,NdN]
theorem NgE{ck:Nat}(h:ck≠3)(ps:List PV)(q:PV):eq1 ck (.agg ps) q=none:=by
 cases hh:eq1 ck (.agg ps) q with
 |none=>rfl
 |some b =>
   unfold eq1 at hh;split at hh<;>first|(rename_i e _;cases e;done)|(rename_i e;cases e;done)|(rw[if_neg (fun hh=>h hh.1)]at hh;cases hh;done)|(cases hh;done)|(exfalso;simp_all;done)
theorem NfW{t:TypeId}{ck:Nat}(ht:ckT P t=some ck){a c:Value}{p q:PV}(ha:VRel G a p)(hc:VRel G c q){b:Bool}(h:eq1 ck p q=some b) :
 (∀ D,P.underlying t=some D→Instr.sameNow D a c=some b)∧(b=true→Instr.sameBits 10000 c a=true)∧∀ d w,(Op.equalIn (d+1) t a c).run P w=.ok b w:=by
 unfold ckT at ht;cases ha with
 |i k n =>
   cases hc with
   |i l m =>
     simp only[eq1]at h;split at h
     ·rename_i hcond;obtain⟨rfl,rfl⟩:=hcond;simp only[Sj]at h;subst h;split at ht
      ·rename_i k' hu;refine⟨fun D hD=>?_,fun hb=>?_,fun d w=>run_equalIn_int w d t k k' n m hu⟩
       ·rw[hu]at hD;cases hD;simp[Instr.sameNow]
       ·have:n=m:=(by simpa using hb);subst this;simp[Instr.sameBits]
      ·simp at ht
      ·simp at ht
      ·simp at ht
     ·simp at h
   |_=>simp[eq1]at h
 |b x =>
   cases hc with
   |b y =>
     simp only[eq1]at h;split at h
     ·rename_i hcond;subst hcond;simp only[Sj]at h;subst h;split at ht
      ·simp at ht
      ·rename_i hu;refine⟨fun D hD=>?_,fun hb=>?_,fun d w=>run_equalIn_bool' w d t x y hu⟩
       ·rw[hu]at hD;cases hD;simp[Instr.sameNow]
       ·have:x=y:=(by simpa using hb);subst this;simp[Instr.sameBits]
      ·simp at ht
      ·simp at ht
     ·simp at h
   |_=>simp[eq1]at h
 |s x =>
   cases hc with
   |s y =>
     simp only[eq1]at h;split at h
     ·rename_i hcond;subst hcond;simp only[Sj]at h;subst h;split at ht
      ·simp at ht
      ·simp at ht
      ·rename_i hu;refine⟨fun D hD=>?_,fun hb=>?_,fun d w=>?_⟩
       ·rw[hu]at hD;cases hD;show some _=_;rw[Ngt]
       ·have:x=y:=(by simpa using hb);subst this;show((⟨x.toArray⟩:ByteArray)==⟨x.toArray⟩)=true;rw[Ngt];simp
       ·have:=run_equalIn_string w d t ⟨x.toArray⟩ ⟨y.toArray⟩ hu;rwa[NdN,NdN]at this
      ·simp at ht
     ·simp at h
   |_=>simp[eq1]at h
 |agg cs ps hl hh =>
   exfalso;rw[NgE (by rintro rfl;split at ht<;>simp at ht)]at h;cases h
 |_=>simp[eq1]at h
theorem Nrc{r:Nat}{es:Array MapEntry}{clock:Nat}(hb:w.heap[r]? = some (.map es clock)):(getObj r).run P w=.ok (.map es clock) w:=by
 simp[getObj,Sem.run,hb]
theorem Nse{r:Nat}{es:Array MapEntry}{clock:Nat}(o:Obj)(hb:w.heap[r]? = some (.map es clock)):(setObj r o).run P w=.ok () { w with heap:=w.heap.setIfInBounds r o }:=by
 simp[setObj,Sem.run,hb]
theorem Nhn{t:TypeId}{ck:Nat}(ht:ckT P t=some ck):Ncq P t=some false:=by
 unfold ckT at ht;unfold Ncq;split at ht<;>first|(rename_i hu;rw[hu];rfl)|(simp at ht)
theorem Nq0{ps:List PV}{o:Nat}{p:PV}(h:ps[o]? = some p):cut? ps o 1=some [p]:=by
 obtain⟨hlt,he⟩:=List.getElem?_eq_some_iff.1 h;unfold cut?;rw[if_pos Zaa,List.drop_eq_getElem_cons hlt,he];rfl
theorem NcZ{d:Nat}:∀ (fs:List Field) (l:List (Nat×Nat)),eqsT P fs=some l→∀ {xs ys:Array Value}{ps qs:List PV},CRel G xs.toList ps→CRel G ys.toList qs→∀ {b:Bool},Nhg l ps qs=some b→∀ w,(Op.eqFields (d+1) xs ys fs).run P w=.ok b w
 |[],l,hl,xs,ys,ps,qs,hx,hy,b,hb,w=>by
   simp only[eqsT,mapO,Sj]at hl;subst hl;simp only[Nhg,Sj]at hb;subst hb;simp[Op.eqFields]
 |f::fs,l,hl,xs,ys,ps,qs,hx,hy,b,hb,w=>by
   simp only[eqsT,mapO]at hl;split at hl
   ·rename_i z l' hz hl';simp only[Sj]at hl;subst hl;simp only[Option.bind_eq_bind,Option.bind_eq_some_iff]at hz;obtain⟨ck,hck,n,hn,hz⟩:=hz;split at hz
    ·rename_i hcond;obtain⟨rfl,hnm⟩:=hcond;simp only[Sj]at hz;subst hz;simp only[Nhg]at hb;split at hb
     ·rename_i p q hp hq;obtain⟨u,hu,hur⟩:=NdJ (Nhn hck) hn hx (Nq0 hp) (r:=p) rfl w;obtain⟨v,hv,hvr⟩:=NdJ (Nhn hck) hn hy (Nq0 hq) (r:=q) rfl w;cases he:eq1 ck p q with
      |none=>rw[he]at hb;simp at hb
      |some r =>
        rw[he]at hb;obtain⟨_,_,hrun⟩:=NfW hck hur hvr he;have hr:=hrun d w;cases r with
        |true =>
          have ih:=NcZ (d:=d) fs l' hl' hx hy (by simpa using hb) w;simp[Op.eqFields,hnm,hu,hv,hr,ih]
        |false =>
          simp only[Sj]at hb;subst hb;simp[Op.eqFields,hnm,hu,hv,hr]
     ·simp at hb
    ·simp at hz
   ·simp at hl
theorem NpK(hs:Sim G st w base){neg:Bool}{t:TypeId}{x y:Operand}{fs:Array Field}(hu:P.underlying t=some (.struct fs)){l:List (Nat×Nat)}(hl:eqsT P fs.toList=some l)(h1:P.stoodInHeld t=false)(h2:P.eqGuardType P.depth t=false)
 {a c:Value}{ps qs:List PV}(ha:VRel G a (.agg ps)) (hc:VRel G c (.agg qs)) {b:Bool}(hb:Nhg l ps qs=some b) :
 OpOK P base N G st w (do pure (.value (←do eqGuard (if neg then .neq else .eql) t x y a c;binOp (if neg then .neq else .eql) t a c))) (.b (b != neg)) st:=by
 obtain⟨xs,rfl,hx⟩:=ha.agg_inv;obtain⟨ys,rfl,hy⟩:=hc.agg_inv;have hf:P.fieldsOf t=fs:=by simp[Program.fieldsOf,hu]
 have hrun:(Op.equalIn 10000 t (.agg xs) (.agg ys)).run P w=.ok b w:=by
  rw[run_equalIn_struct w 9999 t xs ys (by rw[hf];exact hu) h1,hf];exact NcZ (d:=9998) fs.toList l hl hx hy hb w
 have e1:=run_eql_struct (P:=P) w t xs ys;have e2:=run_neq_struct (P:=P) w t xs ys;rw[hrun]at e1 e2;simp only[Result.andThen]at e1 e2;have g1:=run_eqGuard_agg (P:=P) w .eql t x y xs ys h2;have g2:=run_eqGuard_agg (P:=P) w .neq t x y xs ys h2;cases neg
 ·exact OpOK.same hs (v:=.bool b) (by simp[g1,e1]) (by cases b<;>exact .b _)
 ·exact OpOK.same hs (v:=.bool (!b)) (by simp[g2,e2]) (by cases b<;>exact .b _)
theorem Nk1{t:TypeId}{p:PV}(h:Nmx P t=some p):∃ v,VRel G v p∧∀ w,(zeroValue t).run P w=.ok v w:=by
 simp only[Nmx,Option.bind_eq_bind,Option.bind_eq_some_iff]at h;obtain⟨i,hi,v,hv,hp⟩:=h;exact⟨v,Ncn hp,fun w=>by simp[zeroValue,typeInfo,hi,hv]⟩
theorem NeG{t:TypeId}{ck:Nat}(ht:ckT P t=some ck)(e:Bool)(n:Nat)(v:Value)(w:World):(Instr.checkKey e (n+1) t v).run P w=.ok () w:=by
 unfold ckT at ht;split at ht
 ·rename_i k hu;simp[Instr.checkKey,run_underlying hu]
 ·rename_i hu;simp[Instr.checkKey,run_underlying hu]
 ·rename_i hu;simp[Instr.checkKey,run_underlying hu]
 ·simp at ht
theorem NdT{ck:Nat}{k:PV}{r:Option PV}(h:Nbz ck k []=some r):r=none∧(ck=3→∃ b,eq1 3 k k=some b):=by
 rw[Nbz]at h;split at h
 ·simp only[Option.map_eq_some_iff]at h;obtain⟨b,hb,rfl⟩:=h;exact⟨rfl,fun _=>⟨b,hb⟩⟩
 ·rename_i hc;simp only[Sj]at h;exact⟨h.symm,fun h=>absurd h hc⟩
theorem NdU{ck:Nat}{k v:PV}{r:List (PV×PV)}(h:Nbu ck k v []=some r):r=[(k,v)]∧(ck=3→∃ b,eq1 3 k k=some b):=by
 rw[Nbu]at h;split at h
 ·simp only[Option.map_eq_some_iff]at h;obtain⟨b,hb,rfl⟩:=h;exact⟨rfl,fun _=>⟨b,hb⟩⟩
 ·rename_i hc;simp only[Sj]at h;exact⟨h.symm,fun h=>absurd h hc⟩
theorem NeP{D:TypeDesc}{ck:Nat}{key:Value}{pk:PV}(hD:∀ (e:Value) (p:PV) (b:Bool),VRel G e p→eq1 ck pk p=some b→Instr.sameNow D key e=some b):∀ (l:List MapEntry) (es:List (PV×PV)) (i:Nat),ERel G l es→∀ r,Nbz ck pk es=some r →
 (r=none∧Instr.findNow D key l i=some none)∨∃ pv j v,r=some pv∧Instr.findNow D key l i=some (some (j,v))∧VRel G v pv
 |[],[],i,h,r,hr=>by
   exact .inl ⟨(NdT hr).1,rfl⟩
 |[],_::_,i,h,r,hr=>by have:=h.1;simp at this
 |_::_,[],i,h,r,hr=>by have:=h.1;simp at this
 |e::l,p::es,i,h,r,hr=>by
   have h0:=h.2 0 e p rfl rfl;have ht:ERel G l es:=⟨by have:=h.1;simpa using this,fun j a b ha hb=>h.2 (j+1) a b (by simpa using ha) (by simpa using hb)⟩;simp only[Nbz]at hr;split at hr
   ·rename_i he;simp only[Sj]at hr;right;exact⟨p.2,i,e.val,hr.symm,by simp[Instr.findNow,hD _ _ _ h0.1 he],h0.2⟩
   ·rename_i he;rcases NeP hD l es (i+1) ht r hr with⟨a,b⟩|⟨pv,j,v,a,b,c⟩
    ·left;exact⟨a,by simp[Instr.findNow,hD _ _ _ h0.1 he,b]⟩
    ·right;exact⟨pv,j,v,a,by simp[Instr.findNow,hD _ _ _ h0.1 he,b],c⟩
   ·simp at hr
theorem NeQ{D:TypeDesc}{ck:Nat}{key:Value}{pk pv:PV}(hD:∀ (e:Value) (p:PV) (b:Bool),VRel G e p→eq1 ck pk p=some b→Instr.sameNow D key e=some b):∀ (l:List MapEntry) (es:List (PV×PV)) (i:Nat),ERel G l es→∀ es',Nbu ck pk pv es=some es' →
 (Instr.findNow D key l i=some none∧es'=es++[(pk,pv)])∨∃ j e p,Instr.findNow D key l i=some (some (i+j,e.val))∧l[j]? = some e∧es[j]? = some p∧eq1 ck pk p.1=some true∧es'=es.set j (pk,pv)
 |[],[],i,h,r,hr=>by
   exact .inl ⟨rfl,(NdU hr).1⟩
 |[],_::_,i,h,r,hr=>by have:=h.1;simp at this
 |_::_,[],i,h,r,hr=>by have:=h.1;simp at this
 |e::l,p::es,i,h,r,hr=>by
   have h0:=h.2 0 e p rfl rfl;have ht:ERel G l es:=⟨by have:=h.1;simpa using this,fun j a b ha hb=>h.2 (j+1) a b (by simpa using ha) (by simpa using hb)⟩;simp only[Nbu]at hr;split at hr
   ·rename_i he;simp only[Sj]at hr;right;exact⟨0,e,p,by simp[Instr.findNow,hD _ _ _ h0.1 he],rfl,rfl,he,by rw[←hr];rfl⟩
   ·rename_i he;simp only[Option.map_eq_some_iff]at hr;obtain⟨r',hr',rfl⟩:=hr;rcases NeQ hD l es (i+1) ht r' hr' with⟨a,b⟩|⟨j,e0,p0,a,b,c,d,f⟩
    ·left;exact⟨by simp[Instr.findNow,hD _ _ _ h0.1 he,a],by rw[b];rfl⟩
    ·right;exact⟨j+1,e0,p0,by simp[Instr.findNow,hD _ _ _ h0.1 he,a];omega,by simpa using b,by simpa using c,d,by rw[f];rfl⟩
   ·simp at hr
theorem NcR{t k e:TypeId}(h:Nn7 P t=some (k,e)):P.underlying t=some (.map k e):=by
 unfold Nn7 at h;split at h
 ·rename_i hu;simp only[Sj,Pj]at h;obtain⟨rfl,rfl⟩:=h;exact hu
 ·simp at h
theorem Nll{t:TypeId}{ck:Nat}(h:ckT P t=some ck):∃ D,P.underlying t=some D:=by
 unfold ckT at h;split at h
 ·rename_i hu;exact⟨_,hu⟩
 ·rename_i hu;exact⟨_,hu⟩
 ·rename_i hu;exact⟨_,hu⟩
 ·simp at h
theorem Nes{t:TypeId}{ck:Nat}(h:kkT P t=some ck):(∃ D,P.underlying t=some D)∧(ckT P t=some ck∨ck=3∧∃ fs,P.underlying t=some (.struct fs)∧P.stoodInHeld t=false∧eqsT P fs.toList=some [(0,0),(1,0)]):=by
 unfold kkT at h;split at h
 ·rename_i c hc;simp only[Sj]at h;subst h;exact⟨Nll hc,.inl hc⟩
 ·split at h
  ·rename_i fs hu;split at h
   ·rename_i hcond;simp only[Sj]at h;subst h;exact⟨⟨_,hu⟩,.inr ⟨rfl,fs,hu,hcond.1,hcond.2⟩⟩
   ·cases h
  ·cases h
theorem NgF{p q:PV}{b:Bool}(h:eq1 3 p q=some b):∃ k a l c x y,p=.agg [.i k a,.i l c]∧q=.agg [.i k x,.i l y]∧b=(a==x&&c==y):=by
 unfold eq1 at h;split at h
 ·simp at h
 ·simp at h
 ·simp at h
 ·rename_i k a l c k' x l' y;split at h
  ·rename_i hc;obtain⟨-,rfl,rfl⟩:=hc;simp only[Sj]at h;exact⟨_,_,_,_,_,_,rfl,rfl,h.symm⟩
  ·cases h
 ·cases h
theorem CRel.two{vs:List Value}{p q:PV}(h:CRel G vs [p,q]):∃ u v,vs=[u,v]∧VRel G u p∧VRel G v q:=by
 have hl:=h.1;rcases vs with _|⟨u,_|⟨v,_|⟨z,r⟩⟩⟩
 ·simp at hl
 ·simp at hl
 ·exact⟨u,v,rfl,h.2 0 u p rfl rfl,h.2 1 v q rfl rfl⟩
 ·simp at hl
theorem Nhp{t:TypeId}{fs:Array Field}(hu:P.underlying t=some (.struct fs))(hs:P.stoodInHeld t=false)(he:eqsT P fs.toList=some [(0,0),(1,0)]){a c:Value}{p q:PV}(ha:VRel G a p)(hc:VRel G c q){b:Bool}(h:eq1 3 p q=some b) :
 (b=true→Instr.sameBits 10000 c a=true)∧∀ w,(Op.equal t a c).run P w=.ok b w:=by
 obtain⟨k,m,l,n,x,y,rfl,rfl,rfl⟩:=NgF h;obtain⟨xs,rfl,hx⟩:=ha.agg_inv;obtain⟨ys,rfl,hy⟩:=hc.agg_inv;refine⟨fun hb=>?_,fun w=>?_⟩
 ·obtain⟨u,v,e1,r1,r2⟩:=hx.two;obtain⟨u',v',e2,r3,r4⟩:=hy.two;simp only[Bool.and_eq_true,beq_iff_eq]at hb;obtain⟨rfl,rfl⟩:=hb;cases r1;cases r2;cases r3;cases r4;have s1:xs.size=2:=by rw[←Array.length_toList,e1];rfl
  have s2:ys.size=2:=by rw[←Array.length_toList,e2];rfl
  simp[Instr.sameBits,s1,s2,e1,e2]
 ·have hf:P.fieldsOf t=fs:=by simp[Program.fieldsOf,hu]
  show(Op.equalIn 10000 t (.agg xs) (.agg ys)).run P w=_;rw[run_equalIn_struct w 9999 t xs ys (by rw[hf];exact hu) hs,hf];refine NcZ (d:=9998) fs.toList _ he hx hy ?_ w;cases h1:(m==x)<;>cases h2:(n==y)<;>simp[Nhg,eq1,h1,h2]
theorem Nea {e : Bool} {n : Nat} {xs : Array Value} {ps : List PV} (hx : CRel G xs.toList ps) : ∀ (fs : List Field) (l : List (Nat × Nat)), eqsT P fs = some l → (∀ q, q ∈ l → ∃ p, ps[q.1]? = some p) → ∀ w, (forIn fs PUnit.unit fun (f : Field) (r : PUnit) => if f.name ≠ "_" then do
        let a ←part f.type xs f.offset
        Instr.checkKey e (n+1) f.type a
        pure (ForInStep.yield PUnit.unit)else pure (ForInStep.yield PUnit.unit):Sem PUnit).run P w=.ok PUnit.unit w
 |[],l,hl,hp,w=>by simp
 |f::fs,l,hl,hp,w=>by
   simp only[eqsT,mapO]at hl;split at hl
   ·rename_i z l' hz hl';simp only[Sj]at hl;subst hl;simp only[Option.bind_eq_bind,Option.bind_eq_some_iff]at hz;obtain⟨ck,hck,m,hn,hz⟩:=hz;split at hz
    ·rename_i hcond;obtain⟨rfl,hnm⟩:=hcond;simp only[Sj]at hz;subst hz;obtain⟨p,hpp⟩:=hp (f.offset,ck) Zaf;obtain⟨u,hu,hur⟩:=NdJ (Nhn hck) hn hx (Nq0 hpp) (r:=p) rfl w;have ih:=Nea (e:=e) (n:=n) hx fs l' hl' (fun q hq=>hp q (by simp[hq])) w;simp only[List.forIn_cons,if_pos hnm,Sem.run_bind,hu,Result.andThen_ok,NeG hck e n u w,Sem.run_pure];exact ih
    ·simp at hz
   ·simp at hl
theorem NjA{t:TypeId}{fs:Array Field}(hu:P.underlying t=some (.struct fs))(he:eqsT P fs.toList=some [(0,0),(1,0)])(e:Bool)(n:Nat){v:Value}{p q:PV}(hv:VRel G v (.agg [p,q]))(w:World):(Instr.checkKey e (n+2) t v).run P w=.ok () w:=by
 obtain⟨xs,rfl,hx⟩:=hv.agg_inv;have h:=Nea (P:=P) (e:=e) (n:=n) hx fs.toList _ he (by
  intro q hq;simp only[List.mem_cons,List.not_mem_nil,or_false]at hq;rcases hq with rfl|rfl
  ·exact⟨_,rfl⟩
  ·exact⟨_,rfl⟩) w
 rw[Array.forIn_toList]at h;rw[Instr.checkKey];simp only[Sem.run_bind,run_underlying hu,Result.andThen_ok];rw[h];rfl
theorem NeN{kt:TypeId}{ck:Nat}{key:Value}{pk:PV}{w:World}(hD:∀ (e:Value) (p:PV) (b:Bool),VRel G e p→eq1 ck pk p=some b→(Op.equal kt key e).run P w=.ok b w):∀ (l:List MapEntry) (es:List (PV×PV)) (i:Nat),ERel G l es→∀ r,Nbz ck pk es=some r →
 (r=none∧(Instr.findAsking kt key l i).run P w=.ok none w)∨∃ pv j v,r=some pv∧(Instr.findAsking kt key l i).run P w=.ok (some (j,v)) w∧VRel G v pv
 |[],[],i,h,r,hr=>by
   exact .inl ⟨(NdT hr).1,by simp[Instr.findAsking]⟩
 |[],_::_,i,h,r,hr=>by have:=h.1;simp at this
 |_::_,[],i,h,r,hr=>by have:=h.1;simp at this
 |e::l,p::es,i,h,r,hr=>by
   have h0:=h.2 0 e p rfl rfl;have ht:ERel G l es:=⟨by have:=h.1;simpa using this,fun j a b ha hb=>h.2 (j+1) a b (by simpa using ha) (by simpa using hb)⟩;simp only[Nbz]at hr;split at hr
   ·rename_i he;simp only[Sj]at hr;right;exact⟨p.2,i,e.val,hr.symm,by simp[Instr.findAsking,hD _ _ _ h0.1 he],h0.2⟩
   ·rename_i he;rcases NeN hD l es (i+1) ht r hr with⟨a,b⟩|⟨pv,j,v,a,b,c⟩
    ·left;exact⟨a,by simp[Instr.findAsking,hD _ _ _ h0.1 he,b]⟩
    ·right;exact⟨pv,j,v,a,by simp[Instr.findAsking,hD _ _ _ h0.1 he,b],c⟩
   ·simp at hr
theorem NeO{kt:TypeId}{ck:Nat}{key:Value}{pk pv:PV}{w:World}(hD:∀ (e:Value) (p:PV) (b:Bool),VRel G e p→eq1 ck pk p=some b→(Op.equal kt key e).run P w=.ok b w):∀ (l:List MapEntry) (es:List (PV×PV)) (i:Nat),ERel G l es→∀ es',Nbu ck pk pv es=some es' →
 ((Instr.findAsking kt key l i).run P w=.ok none w∧es'=es++[(pk,pv)])∨∃ j e p,(Instr.findAsking kt key l i).run P w=.ok (some (i+j,e.val)) w∧l[j]? = some e∧es[j]? = some p∧eq1 ck pk p.1=some true∧es'=es.set j (pk,pv)
 |[],[],i,h,r,hr=>by
   exact .inl ⟨by simp[Instr.findAsking],(NdU hr).1⟩
 |[],_::_,i,h,r,hr=>by have:=h.1;simp at this
 |_::_,[],i,h,r,hr=>by have:=h.1;simp at this
 |e::l,p::es,i,h,r,hr=>by
   have h0:=h.2 0 e p rfl rfl;have ht:ERel G l es:=⟨by have:=h.1;simpa using this,fun j a b ha hb=>h.2 (j+1) a b (by simpa using ha) (by simpa using hb)⟩;simp only[Nbu]at hr;split at hr
   ·rename_i he;simp only[Sj]at hr;right;exact⟨0,e,p,by simp[Instr.findAsking,hD _ _ _ h0.1 he],rfl,rfl,he,by rw[←hr];rfl⟩
   ·rename_i he;simp only[Option.map_eq_some_iff]at hr;obtain⟨r',hr',rfl⟩:=hr;rcases NeO hD l es (i+1) ht r' hr' with⟨a,b⟩|⟨j,e0,p0,a,b,c,d,f⟩
    ·left;exact⟨by simp[Instr.findAsking,hD _ _ _ h0.1 he,a],by rw[b];rfl⟩
    ·right;exact⟨j+1,e0,p0,by simp[Instr.findAsking,hD _ _ _ h0.1 he,a];omega,by simpa using b,by simpa using c,d,by rw[f];rfl⟩
   ·simp at hr
theorem Ndm{fs:Array Field}{key:Value}:∀ (l:List MapEntry) (i:Nat),Instr.findNow (.struct fs) key l i=some none∧l=[]∨Instr.findNow (.struct fs) key l i=none
 |[],i=>.inl ⟨rfl,rfl⟩
 |e::l,i=>.inr (by simp[Instr.findNow,Instr.sameNow])
theorem NnZ{kt:TypeId}{ck:Nat}(hck:kkT P kt=some ck){key:Value}{pk:PV}(hk:VRel G key pk){l:List MapEntry}{es:List (PV×PV)}(hE:ERel G l es){r:Option PV}(hr:Nbz ck pk es=some r)(w:World) :
 (r=none∧(Instr.findKey kt key l).run P w=.ok none w)∨∃ pv j v,r=some pv∧(Instr.findKey kt key l).run P w=.ok (some (j,v)) w∧VRel G v pv:=by
 obtain⟨⟨D,hD⟩,hc|⟨rfl,fs,hu,hs,he⟩⟩:=Nes hck
 ·rcases NeP (G:=G) (D:=D) (ck:=ck) (key:=key) (pk:=pk) (fun e p b he h=>(NfW hc hk he h).1 D hD) l es 0 hE r hr with⟨rfl,hf⟩|⟨pv,i,v,rfl,hf,hv⟩
  ·exact .inl ⟨rfl,by simp[Instr.findKey,run_underlying hD,hf]⟩
  ·exact .inr ⟨pv,i,v,rfl,by simp[Instr.findKey,run_underlying hD,hf],hv⟩
 ·have hh:=NeN (G:=G) (P:=P) (kt:=kt) (w:=w) (ck:=3) (key:=key) (pk:=pk) (fun e p b he2 h=>(Nhp hu hs he hk he2 h).2 w) l es 0 hE r hr;have hq:(Instr.findKey kt key l).run P w=(Instr.findAsking kt key l 0).run P w:=by
   rcases Ndm (fs:=fs) (key:=key) l 0 with⟨h1,rfl⟩|h1
   ·simp[Instr.findKey,run_underlying hu,h1,Instr.findAsking]
   ·simp[Instr.findKey,run_underlying hu,h1]
  rw[hq];exact hh
theorem Nn0{kt:TypeId}{ck:Nat}(hck:kkT P kt=some ck){key:Value}{pk pv:PV}(hk:VRel G key pk){l:List MapEntry}{es es':List (PV×PV)}(hE:ERel G l es)(hr:Nbu ck pk pv es=some es')(w:World) :
 ((Instr.findKey kt key l).run P w=.ok none w∧es'=es++[(pk,pv)])∨∃ j e p,(Instr.findKey kt key l).run P w=.ok (some (j,e.val)) w∧l[j]? = some e∧es[j]? = some p∧Instr.sameBits 10000 e.key key=true∧es'=es.set j (pk,pv):=by
 obtain⟨⟨D,hD⟩,hc|⟨rfl,fs,hu,hs,he⟩⟩:=Nes hck
 ·rcases NeQ (G:=G) (D:=D) (ck:=ck) (key:=key) (pk:=pk) (pv:=pv) (fun e p b he h=>(NfW hc hk he h).1 D hD) l es 0 hE es' hr with⟨hf,rfl⟩|⟨i,e,p,hf,hl,hes,he,rfl⟩
  ·exact .inl ⟨by simp[Instr.findKey,run_underlying hD,hf],rfl⟩
  ·rw[Nat.zero_add]at hf;exact .inr ⟨i,e,p,by simp[Instr.findKey,run_underlying hD,hf],hl,hes,(NfW hc hk (hE.2 i e p hl hes).1 he).2.1 rfl,rfl⟩
 ·have hh:=NeO (G:=G) (P:=P) (kt:=kt) (w:=w) (ck:=3) (key:=key) (pk:=pk) (pv:=pv) (fun e p b he2 h=>(Nhp hu hs he hk he2 h).2 w) l es 0 hE es' hr;have hq:(Instr.findKey kt key l).run P w=(Instr.findAsking kt key l 0).run P w:=by
   rcases Ndm (fs:=fs) (key:=key) l 0 with⟨h1,rfl⟩|h1
   ·simp[Instr.findKey,run_underlying hu,h1,Instr.findAsking]
   ·simp[Instr.findKey,run_underlying hu,h1]
  rw[hq];rcases hh with h|⟨j,e,p,h1,h2,h3,h4,h5⟩
  ·exact .inl h
  ·rw[Nat.zero_add]at h1;exact .inr ⟨j,e,p,h1,h2,h3,(Nhp hu hs he hk (hE.2 j e p h2 h3).1 h4).1 rfl,h5⟩
theorem Nce{kt:TypeId}{ck:Nat}(hck:kkT P kt=some ck){key:Value}{pk:PV}(hk:VRel G key pk)(hb:ck=3→∃ p b,eq1 3 pk p=some b)(e:Bool)(w:World):(Instr.checkKey e 10000 kt key).run P w=.ok () w:=by
 obtain⟨_,hc|⟨rfl,fs,hu,hs,he⟩⟩:=Nes hck
 ·exact NeG hc e 9999 key w
 ·obtain⟨p,b,hb⟩:=hb rfl;obtain⟨k,m,l,n,x,y,rfl,-,-⟩:=NgF hb;exact NjA hu he e 9998 hk w
theorem NgM{ck:Nat}{k:PV}{es:List (PV×PV)}{r:Option PV}(h:Nbz ck k es=some r)(h3:ck=3):∃ p b,eq1 3 k p=some b:=by
 cases es with
 |nil=>obtain⟨b,hb⟩:=(NdT h).2 h3;exact⟨_,b,hb⟩
 |cons p es =>
   subst h3;rw[Nbz]at h;split at h
   ·exact⟨_,_,by assumption⟩
   ·exact⟨_,_,by assumption⟩
   ·cases h
theorem NgO{ck:Nat}{k v:PV}{es r:List (PV×PV)}(h:Nbu ck k v es=some r)(h3:ck=3):∃ p b,eq1 3 k p=some b:=by
 cases es with
 |nil=>obtain⟨b,hb⟩:=(NdU h).2 h3;exact⟨_,b,hb⟩
 |cons p es =>
   subst h3;rw[Nbu]at h;split at h
   ·exact⟨_,_,by assumption⟩
   ·exact⟨_,_,by assumption⟩
   ·cases h
theorem Nma(hs:Sim G st w base){t:TypeId}(key:Nat)(hN:N key)(hk:G.B key=none):OpOK P base N G st w (do pure (.value (←Instr.makeMap t none))) (.mp key) (st.put key (some (.map []))):=by
 obtain⟨G',hB,hst⟩:=Step.allocM hs key hN hk (.map []) (.map #[] 0) 0 Zaf (fun G'=>⟨#[],0,rfl,rfl,fun i e p hh=>by simp at hh⟩);exact⟨_,_,G',by simp[Instr.makeMap],.inl ⟨_,rfl,.mp key _ _ hB⟩,hst⟩
theorem NgX(hs:Sim G st w base){t kt et:TypeId}(hu:Nn7 P t=some (kt,et)){ck:Nat}(hck:kkT P kt=some ck){ok:Bool}{zero:PV}(hz:Nmx P et=some zero){m k:Value}{pm pk:PV}(hm:VRel G m pm)(hk:VRel G k pk){r:PV}
 (hr:(pm=.nmp∧ck≠3∧r=(if ok then .tup [zero,.b false]else zero))∨∃ j es g,pm=.mp j∧st.get j=some (.map es)∧Nbz ck pk es=some g∧r=(if ok then .tup [g.getD zero,.b g.isSome]else g.getD zero)) :
 OpOK P base N G st w (do pure (.value (←Instr.lookup t m k ok))) r st:=by
 obtain⟨z,hzr,hzrun⟩:=Nk1 (G:=G) hz;have htup:∀ {v:Value}{p:PV}{b:Bool},VRel G v p→VRel G (.tuple #[v,.bool b]) (.tup [p,.b b]):=fun h=>VRel.tup_c (CRel.cons h (CRel.cons (.b _) .nil));rcases hr with⟨rfl,hn3,rfl⟩|⟨j,es,g,rfl,hg,hmg,rfl⟩
 ·cases hm;have hc:(Instr.checkKey true 10000 kt k).run P w=.ok () w:=Nce hck hk (fun h=>absurd h hn3) true w;have hf0:(Instr.findKey kt k []).run P w=.ok none w:=by
   obtain⟨⟨D,hD⟩,hc|⟨rfl,_⟩⟩:=Nes hck
   ·simp[Instr.findKey,run_underlying hD,Instr.findNow]
   ·exact absurd rfl hn3
  refine OpOK.same hs (v:=if ok then .tuple #[z,.bool false]else z) ?_ ?_
  ·simp[Instr.lookup,run_underlying (NcR hu),hc,hf0,hzrun]
  ·cases ok
   ·exact hzr
   ·exact htup hzr
 ·cases hm with
  |mp _ blk size hB =>
    obtain⟨ents,clock,h1,h2⟩:=hs.mapAt j es blk size hg hB;have hob:=Nrc (P:=P) h1;have hc:(Instr.checkKey ents.isEmpty 10000 kt k).run P w=.ok () w:=Nce hck hk (NgM hmg) ents.isEmpty w;rcases NnZ hck hk h2 hmg w with⟨rfl,hf⟩|⟨pv,i,v,rfl,hf,hv⟩
    ·refine OpOK.same hs (v:=if ok then .tuple #[z,.bool false]else z) ?_ ?_
     ·simp[Instr.lookup,run_underlying (NcR hu),hob,hc,hf,hzrun]
     ·cases ok
      ·exact hzr
      ·exact htup hzr
    ·refine OpOK.same hs (v:=if ok then .tuple #[v,.bool true]else v) ?_ ?_
     ·simp[Instr.lookup,run_underlying (NcR hu),hob,hc,hf]
     ·cases ok
      ·exact hv
      ·exact htup hv
theorem Nip(hs:Sim G st w base){t kt et:TypeId}(hu:Nn7 P t=some (kt,et)){ck:Nat}(hck:kkT P kt=some ck){k v:Value}{pk pv:PV}{m:Value}{j:Nat}(hm:VRel G m (.mp j))(hk:VRel G k pk)(hv:VRel G v pv){es es':List (PV×PV)}(hg:st.get j=some (.map es))(hp:Nbu ck pk pv es=some es') :
 OpOK P base N G st w (do Instr.mapUpdate t m k v;pure .skip) (.tup []) (st.put j (some (.map es'))):=by
 cases hm with
 |mp _ blk size hB =>
   obtain⟨ents,clock,h1,h2⟩:=hs.mapAt j es blk size hg hB;have hob:=Nrc (P:=P) h1;have hc:(Instr.checkKey false 10000 kt k).run P w=.ok () w:=Nce hck hk (NgO hp) false w;have hlt:blk<w.heap.size:=(Array.getElem?_eq_some_iff.1 h1).1;have hset:=fun o=>Nse (P:=P) o h1;have stp:∀ (ents':Array MapEntry) (clock':Nat),ERel G ents'.toList es'→Step base N G st w G (st.put j (some (.map es'))) { w with heap:=w.heap.setIfInBounds blk (.map ents' clock') }:=by
    intro ents' clock' he;refine Step.mapw hs j (.map es) (.map es') blk size Zaf Zaf rfl rfl hg hB (.map ents' clock') (by simp[hlt]) ⟨ents',clock',rfl,he⟩ Zaf (fun i hi=>?_) rfl rfl rfl;simp[Array.getElem?_setIfInBounds_ne (Ne.symm hi)]
   rcases Nn0 hck hk h2 hp w with⟨hf,rfl⟩|⟨i,e,p,hf,hl,hes,hsb,rfl⟩
   ·refine⟨.skip,_,G,?_,.inr ⟨rfl,rfl⟩,stp (ents.push { key:=k,val:=v,born:=clock }) (clock+1) ?_⟩
    ·simp[Instr.mapUpdate,run_underlying (NcR hu),hob,hc,hf,hset]
    ·refine⟨by have:=h2.1;simp at this;simp[this],fun q a b ha hb=>?_⟩;have hlen:=h2.1;by_cases hq:q<ents.toList.length
     ·rw[Array.toList_push,List.getElem?_append_left hq]at ha;rw[List.getElem?_append_left Zaa]at hb;exact h2.2 q a b ha hb
     ·rw[Array.toList_push,List.getElem?_append_right Zaa]at ha;rw[List.getElem?_append_right Zaa]at hb;have h0:q - ents.toList.length=0:=by
       have:=(List.getElem?_eq_some_iff.1 ha).1;simp at this ⊢;omega
      rw[h0]at ha;rw[←hlen,h0]at hb;simp at ha hb;subst ha;subst hb;exact⟨hk,hv⟩
   ·have hei:ents[i]? = some e:=(by simpa using hl);refine⟨.skip,_,G,?_,.inr ⟨rfl,rfl⟩,stp (ents.modify i fun e=>{ e with key:=k,val:=v }) clock ?_⟩
    ·simp[Instr.mapUpdate,run_underlying (NcR hu),hob,hc,hf,hei,Instr.keyThatStays,hsb,hset]
    ·have hil:i<ents.size:=(Array.getElem?_eq_some_iff.1 hei).1;refine⟨by have:=h2.1;simp at this;simp[this],fun q a b ha hb=>?_⟩;rw[Array.toList_modify,List.getElem?_modify]at ha;by_cases hq:i=q
     ·subst hq;have hil2:i<es.length:=(by have:=h2.1;simp at this;omega);rw[List.getElem?_set_self hil2]at hb;rw[hl]at ha;simp at ha;subst ha;cases hb;exact⟨hk,hv⟩
     ·rw[List.getElem?_set_ne hq]at hb;simp only[if_neg hq,id_map']at ha;exact h2.2 q a b (by simpa using ha) hb
theorem Nku(hs:Sim G st w base){t:TypeId}(hu:P.underlying t=some .string){l:List UInt8}(key:Nat)(hN:N key)(hk:G.B key=none):OpOK P base N G st w (do pure (.value (←Instr.range t (.string ⟨l.toArray⟩)))) (.ptr key 0) (st.put key (some (.iter l 0))):=by
 obtain⟨G',hB,hst⟩:=Step.allocM hs key hN hk (.iter l 0) (.stringIter ⟨l.toArray⟩ 0) 0 Zaf (fun G'=>rfl);exact⟨_,_,G',by simp[Instr.range,run_underlying hu],.inl ⟨_,rfl,.ptr key 0 _ _ hB⟩,hst⟩
theorem Nis(hs:Sim G st w base){ty:TypeId}{v:Value}{k:Nat}(hv:VRel G v (.ptr k 0)){l:List UInt8}{p:Nat}(hg:st.get k=some (.iter l p)){r:PV}{st':St}
 (hr:(p<l.length∧r=.tup [.b true,.i .i64 p,.i .i32 (Utf8.decode ⟨l.toArray⟩ p).1]∧st'=st.put k (some (.iter l (p+(Utf8.decode ⟨l.toArray⟩ p).2))))∨(¬ p<l.length∧r=.tup [.b false]∧st'=st)) :
 OpOK P base N G st w (do pure (.value (←Instr.next v true ty))) r st':=by
 cases hv with
 |ptr _ _ blk size hB =>
   obtain⟨obj,h1,h2⟩:=hs.mps k _ blk size hg hB;have h2:obj=.stringIter ⟨l.toArray⟩ p:=h2;subst h2;have hsz:(⟨l.toArray⟩:ByteArray).size=l.length:=(by simp[ByteArray.size]);have hlt:blk<w.heap.size:=(Array.getElem?_eq_some_iff.1 h1).1;have hob:(getObj blk).run P w=.ok (.stringIter ⟨l.toArray⟩ p) w:=(by simp[getObj,Sem.run,h1]);have hset:∀ o,(setObj blk o).run P w=.ok () { w with heap:=w.heap.setIfInBounds blk o }:=(by intro o;simp[setObj,Sem.run,h1]);rcases hr with⟨hp,rfl,rfl⟩|⟨hp,rfl,rfl⟩
   ·refine⟨.value (.tuple #[.bool true,.int .i64 p,.int .i32 (Utf8.decode ⟨l.toArray⟩ p).1]),{ w with heap:=w.heap.setIfInBounds blk (.stringIter ⟨l.toArray⟩ (p+(Utf8.decode ⟨l.toArray⟩ p).2)) },G,?_,.inl ⟨_,rfl,VRel.tup_c (CRel.cons (.b _) (CRel.cons (.i _ _) (CRel.cons (.i _ _) CRel.nil)))⟩,?_⟩
    ·simp[Instr.next,hob,hsz,hp,hset,goInt]
    ·refine Step.mapw hs k (.iter l p) (.iter l _) blk size Zaf Zaf rfl rfl hg hB _ (by simp[hlt]) rfl Zaf (fun i hi=>?_) rfl rfl rfl;simp[Array.getElem?_setIfInBounds_ne (Ne.symm hi)]
   ·exact OpOK.same hs (v:=.tuple #[.bool false]) (by simp[Instr.next,hob,hsz,hp]) (VRel.tup_c (CRel.cons (.b _) CRel.nil))
theorem Nks(hs:Sim G st w base){ty t kt et:TypeId}(hu:P.underlying t=some (.map kt et)){m:Value}{pm r:PV}(hm:VRel G m pm)(hr:(pm=.nmp∧r=.i .i64 0)∨∃ j es,pm=.mp j∧st.get j=some (.map es)∧r=.i .i64 es.length) :
 OpOK P base N G st w (do pure (.value (←Builtin.len_ #[t] ty #[m]))) r st:=by
 rcases hr with⟨rfl,rfl⟩|⟨j,es,rfl,hg,rfl⟩
 ·cases hm;exact OpOK.same hs (v:=.int .i64 0) (by simp[Builtin.len_,run_underlying hu,goInt]) (.i _ _)
 ·cases hm with
  |mp _ blk size hB =>
    obtain⟨ents,clock,h1,h2⟩:=hs.mapAt j es blk size hg hB;have hob:=Nrc (P:=P) h1;have hlen:ents.size=es.length:=(by have:=h2.1;simpa using this);exact OpOK.same hs (v:=.int .i64 es.length) (by simp[Builtin.len_,run_underlying hu,hob,goInt,hlen]) (.i _ _)
end
theorem NaZ{α β:Type}{f:α→Option β}:∀ {l:List α}{m:List β},mapO f l=some m→m.length=l.length∧∀ (i:Nat) (x:α) (y:β),l[i]? = some x→m[i]? = some y→f x=some y
 |[],m,h=>by simp[mapO]at h;subst h;simp
 |a::r,m,h=>by
   simp only[mapO]at h;split at h
   ·rename_i x y hx hy;simp only[Sj]at h;subst h;obtain⟨h1,h2⟩:=NaZ hy;refine⟨by simp[h1],fun i u v hu hv=>?_⟩;cases i with
    |zero=>simp at hu hv;subst hu;subst hv;exact hx
    |succ i=>exact h2 i u v (by simpa using hu) (by simpa using hv)
   ·simp at h
section
variable {P:Program}{V:List Nat}{base:Nat}{G:Ghost}{st:St}{w:World}{ρc:Operand→Value}{ρ:Arg→PV}
theorem Ngv(hρ:∀ x y,cArg V x=some y→VRel G (ρc x) (ρ y)){x:Option Operand}{y:Option Arg}(h:cArgO V x=some y):Nk8 G (x.map ρc) (y.map ρ):=by
 cases x with
 |none=>simp[cArgO]at h;subst h;trivial
 |some x =>
   simp only[cArgO,Option.map_eq_some_iff]at h;obtain⟨a,ha,rfl⟩:=h;exact hρ x a ha
theorem Ncw(hρ:∀ x y,cArg V x=some y→VRel G (ρc x) (ρ y)){l:List Operand}{m:List Arg}(h:mapO (cArg V) l=some m):CRel G (l.map ρc) (m.map ρ):=by
 obtain⟨h1,h2⟩:=NaZ h;refine⟨by simp[h1],fun i v p hv hp=>?_⟩;simp only[List.getElem?_map,Option.map_eq_some_iff]at hv hp;obtain⟨x,hx,rfl⟩:=hv;obtain⟨y,hy,rfl⟩:=hp;exact hρ x y (h2 i x y hx hy)
theorem Nke(w:World):∀ {l:List Value}{m:List PV}{v:Value}{p r:PV},CRel G l m→VRel G v p→Nk5 p m=some r→∃ u,(l.foldlM Builtin.min2 v).run P w=.ok u w∧VRel G u r
 |[],m,v,p,r,h,hv,hr=>by
   have:m=[]:=(by have:=h.1;simpa using this.symm);subst this;simp[Nk5]at hr;subst hr;exact⟨v,rfl,hv⟩
 |x::l,[],v,p,r,h,hv,hr=>by have:=h.1;simp at this
 |x::l,q::m,v,p,r,h,hv,hr=>by
   obtain⟨h1,h2⟩:=h.uncons;cases hv<;>cases h1<;>simp[Nk5]at hr;rename_i k1 n1 k2 n2;obtain⟨rfl,hr⟩:=hr;obtain⟨u,hu,hru⟩:=Nke w h2 (.i k1 (if n2<n1 then n2 else n1)) hr;exact⟨u,by simp[List.foldlM_cons,Builtin.min2,hu],hru⟩
theorem Nkd(w:World):∀ {l:List Value}{m:List PV}{v:Value}{p r:PV},CRel G l m→VRel G v p→NlY p m=some r→∃ u,(l.foldlM Builtin.max2 v).run P w=.ok u w∧VRel G u r
 |[],m,v,p,r,h,hv,hr=>by
   have:m=[]:=(by have:=h.1;simpa using this.symm);subst this;simp[NlY]at hr;subst hr;exact⟨v,rfl,hv⟩
 |x::l,[],v,p,r,h,hv,hr=>by have:=h.1;simp at this
 |x::l,q::m,v,p,r,h,hv,hr=>by
   obtain⟨h1,h2⟩:=h.uncons;cases hv<;>cases h1<;>simp[NlY]at hr;rename_i k1 n1 k2 n2;obtain⟨rfl,hr⟩:=hr;obtain⟨u,hu,hru⟩:=Nkd w h2 (.i k1 (if n2 > n1 then n2 else n1)) hr;exact⟨u,by simp[List.foldlM_cons,Builtin.max2,hu],hru⟩
theorem Nhq{modes:FuncId→Option Bool}{cfg:Cfg}{callE:CallE}{o:Oper}{m:MOp}(hm:NcJ P V modes o.op=some m)(hpl:m.plain=true)(hs:Sim G st w base)(hρ:∀ x y,cArg V x=some y→VRel G (ρc x) (ρ y)){key:Nat}(hk:G.B key=none)
 {r:PV}{st':St}(he:Nap cfg callE ρ st key m=some (r,st')):OpOK P base (fun k=>k=key) G st w (execOp ρc o) r st':=by
 cases hop:o.op<;>rw[hop]at hm
 case move x =>
  simp only[NcJ,Option.map_eq_some_iff]at hm;obtain⟨a,ha,rfl⟩:=hm;simp only[Nap,Sj,Pj]at he;obtain⟨rfl,rfl⟩:=he;exact OpOK.same hs (by simp[execOp,hop]) (hρ x a ha)
 case assign x =>
  simp only[NcJ,Option.map_eq_some_iff]at hm;obtain⟨a,ha,rfl⟩:=hm;simp only[Nap,Sj,Pj]at he;obtain⟨rfl,rfl⟩:=he;exact OpOK.same hs (by simp[execOp,hop]) (hρ x a ha)
 case pick c a b =>
  simp only[NcJ,Option.bind_eq_bind,Option.bind_eq_some_iff,Sj]at hm;obtain⟨c',hc,a',ha,b',hb,rfl⟩:=hm;simp only[Nap]at he;have h1:=hρ _ _ hc;split at he
  ·rename_i x hx;simp only[Sj,Pj]at he;obtain⟨rfl,rfl⟩:=he;rw[hx]at h1;obtain⟨q,hq⟩:∃ q,ρc c=q:=⟨_,rfl⟩;rw[hq]at h1;cases h1;cases x
   ·exact OpOK.same hs (v:=ρc b) (by simp[execOp,hop,hq,asBool]) (hρ _ _ hb)
   ·exact OpOK.same hs (v:=ρc a) (by simp[execOp,hop,hq,asBool]) (hρ _ _ ha)
  ·simp at he
 case alloc e =>
  simp only[NcJ,Option.bind_eq_bind,Option.bind_eq_some_iff,Sj]at hm;obtain⟨z,hz,rfl⟩:=hm;simp only[Nap,Sj,Pj]at he;obtain⟨rfl,rfl⟩:=he;simp only[execOp,hop];exact Nl5 hs hz key rfl hk
 case box e x =>
  simp only[NcJ,Option.bind_eq_bind,Option.bind_eq_some_iff,Sj]at hm;obtain⟨a,ha,rfl⟩:=hm;simp only[Nap]at he;split at he
  ·rename_i h1;simp only[Sj,Pj]at he;obtain⟨rfl,rfl⟩:=he;simp only[execOp,hop];exact NpI hs (hρ _ _ ha) h1 key rfl hk
  ·simp at he
 case build t parts =>
  simp only[NcJ,Option.bind_eq_bind,Option.bind_eq_some_iff,Sj]at hm;obtain⟨z,hz,ps,hps,rfl⟩:=hm;simp only[Nap,Option.map_eq_some_iff,Pj]at he;obtain⟨cs,hcs,rfl,rfl⟩:=he;simp only[execOp,hop];have hpt:(parts.map fun(x:Nat×Operand)=>(x.1,ρc x.2))=(parts.toList.map fun(x:Nat×Operand)=>(x.1,ρc x.2)).toArray:=by apply Array.ext';simp
  show OpOK _ _ _ _ _ _ (do pure (.value (←Instr.build t (parts.map fun(x:Nat×Operand)=>(x.1,ρc x.2))))) _ _;rw[hpt];unfold partsT at hps;split at hps
  ·rename_i fs hu;split at hps
   ·rename_i hall;obtain⟨h1,h2⟩:=NaZ hps;refine Ne8 hs hu hz (ps:=ps.map fun p=>(p.1,p.2.1,ρ p.2.2)) (by simp[h1]) ?_ (fun f hf=>by have:=List.all_eq_true.1 hall f hf;simpa using this) hcs;intro i x y hx hy;simp only[List.getElem?_map,Option.map_eq_some_iff]at hx hy;obtain⟨x0,hx0,rfl⟩:=hx;obtain⟨y0,hy0,rfl⟩:=hy;have:=h2 i x0 y0 hx0 hy0;simp only[Option.bind_eq_bind,Option.bind_eq_some_iff,Sj]at this;obtain⟨f,hf,n,hn,q,hq,rfl⟩:=this;exact⟨⟨f,hf,rfl,hn⟩,hρ _ _ hq⟩
   ·simp at hps
  ·rename_i n e hu;split at hps
   ·simp at hps
   ·rename_i n' hn';obtain⟨h1,h2⟩:=NaZ hps;refine Nfl hs hu hz hn' (ps:=ps.map fun p=>(p.1,p.2.1,ρ p.2.2)) (by simp[h1]) ?_ hcs;intro i x y hx hy;simp only[List.getElem?_map,Option.map_eq_some_iff]at hx hy;obtain⟨x0,hx0,rfl⟩:=hx;obtain⟨y0,hy0,rfl⟩:=hy;have:=h2 i x0 y0 hx0 hy0;simp only[Option.bind_eq_bind,Option.bind_eq_some_iff,Sj]at this;obtain⟨q,hq,rfl⟩:=this;exact⟨rfl,rfl,hρ _ _ hq⟩
  ·simp at hps
 case buildSlice t len parts =>
  simp only[NcJ,Option.bind_eq_bind,Option.bind_eq_some_iff]at hm;obtain⟨e,hu',sz,hn,z,hz,ps,hps,hm⟩:=hm;split at hm
  ·rename_i hlen;simp only[Sj]at hm;subst hm;have hu:P.underlying t=some (.slice e):=by
    unfold sliceT at hu';split at hu'
    ·rename_i e' he';simp at hu';subst hu';exact he'
    ·simp at hu'
   simp only[Nap]at he;split at he
   ·rename_i cs hcs;split at he
    ·rename_i hcond;simp only[Sj,Pj]at he;obtain⟨rfl,rfl⟩:=he;simp only[execOp,hop];have hpt:(parts.map fun(x:Nat×Operand)=>(x.1,ρc x.2))=(parts.toList.map fun(x:Nat×Operand)=>(x.1,ρc x.2)).toArray:=(by apply Array.ext';simp);show OpOK _ _ _ _ _ _ (do pure (.value (←Instr.buildSlice t len (parts.map fun(x:Nat×Operand)=>(x.1,ρc x.2))))) _ _;rw[hpt];obtain⟨h1,h2⟩:=NaZ hps;refine Nkr hs hu hn hz hlen hcond.1 (ps:=ps.map fun p=>(p.1,p.2.1,ρ p.2.2)) (by simp[h1]) ?_ hcs hcond.2 key rfl hk;intro i x y hx hy;simp only[List.getElem?_map,Option.map_eq_some_iff]at hx hy;obtain⟨x0,hx0,rfl⟩:=hx;obtain⟨y0,hy0,rfl⟩:=hy;have:=h2 i x0 y0 hx0 hy0;simp only[Option.bind_eq_bind,Option.bind_eq_some_iff,Sj]at this;obtain⟨q,hq,rfl⟩:=this;exact⟨rfl,rfl,hρ _ _ hq⟩
    ·simp at he
   ·simp at he
  ·simp at hm
 case load t a =>
  simp only[NcJ,Option.bind_eq_bind,Option.bind_eq_some_iff,Sj]at hm;obtain⟨g,hg,n,hn,x,hx,rfl⟩:=hm;simp only[Nap]at he;split at he
  ·rename_i cs hcs;simp only[Option.map_eq_some_iff,Pj]at he;obtain⟨q,hq,rfl,rfl⟩:=he;simp only[execOp,hop];exact Noi hs hg hn (hρ _ _ hx) hcs hq
  ·simp at he
 case store t a x =>
  simp only[NcJ,Option.bind_eq_bind,Option.bind_eq_some_iff,Sj]at hm;obtain⟨n,hn,a',ha,x',hx,rfl⟩:=hm;simp only[Nap,Option.map_eq_some_iff,Pj]at he;obtain⟨q,hq,rfl,rfl⟩:=he;simp only[execOp,hop];exact Nmb hs hn (hρ _ _ ha) (hρ _ _ hx) hq
 case nilCheck x =>
  simp only[NcJ,Option.bind_eq_bind,Option.bind_eq_some_iff,Sj]at hm;obtain⟨a,ha,rfl⟩:=hm;simp only[Nap]at he;have hv:=hρ _ _ ha;split at he
  ·rename_i k o' hx;simp only[Sj,Pj]at he;obtain⟨rfl,rfl⟩:=he;rw[hx]at hv;exact Niq hs hv Zaf rfl hop
  ·rename_i cs hx;simp only[Sj,Pj]at he;obtain⟨rfl,rfl⟩:=he;rw[hx]at hv;exact Niq hs hv Zaf rfl hop
  ·simp at he
 case unOp op t x =>
  simp only[NcJ,Option.bind_eq_bind,Option.bind_eq_some_iff,Sj]at hm;obtain⟨a,ha,rfl⟩:=hm;simp only[Nap,Option.map_eq_some_iff,Pj]at he;obtain⟨q,hq,rfl,rfl⟩:=he;simp only[execOp,hop];exact Nrx hs (hρ _ _ ha) hq
 case makeMap t rs =>
  cases rs with
  |some x=>simp[NcJ]at hm
  |none =>
    simp only[NcJ,Sj]at hm;subst hm;simp only[Nap,Sj,Pj]at he;obtain⟨rfl,rfl⟩:=he;simp only[execOp,hop,Option.map_none];exact Nma hs key rfl hk
 case range t x =>
  simp only[NcJ]at hm;split at hm
  ·rename_i hu;simp only[Option.bind_eq_bind,Option.bind_eq_some_iff,Sj]at hm;obtain⟨a,ha,rfl⟩:=hm;have hv:=hρ _ _ ha;simp only[execOp,hop];simp only[Nap]at he;split at he
   ·rename_i l hx;simp only[Sj,Pj]at he;obtain⟨rfl,rfl⟩:=he;rw[hx]at hv;generalize ρc x=vx at hv ⊢;cases hv;exact Nku hs hu key rfl hk
   ·simp at he
  ·simp at hm
 case next x b =>
  cases b with
  |false=>simp[NcJ]at hm
  |true =>
    simp only[NcJ,Option.bind_eq_bind,Option.bind_eq_some_iff,Sj]at hm;obtain⟨a,ha,rfl⟩:=hm;have hv:=hρ _ _ ha;simp only[execOp,hop];simp only[Nap]at he;split at he
    ·rename_i k hx;rw[hx]at hv;split at he
     ·rename_i l p hg;split at he
      ·rename_i hp;simp only[Sj,Pj]at he;obtain⟨rfl,rfl⟩:=he;exact Nis hs hv hg (.inl ⟨hp,rfl,rfl⟩)
      ·rename_i hp;simp only[Sj,Pj]at he;obtain⟨rfl,rfl⟩:=he;exact Nis hs hv hg (.inr ⟨hp,rfl,rfl⟩)
     ·simp at he
    ·simp at he
 case lookup t x i ok =>
  simp only[NcJ,Option.bind_eq_bind,Option.bind_eq_some_iff,Sj]at hm;obtain⟨⟨kt,et⟩,hu,ck,hck,z,hz,a,ha,c,hc,rfl⟩:=hm;have hv:=hρ _ _ ha;have hw:=hρ _ _ hc;simp only[execOp,hop];simp only[Nap]at he;split at he
  ·rename_i hx;split at he
   ·cases he
   rename_i hn3;simp only[Sj,Pj]at he;obtain⟨rfl,rfl⟩:=he;exact NgX hs hu hck hz hv hw (.inl ⟨hx,hn3,rfl⟩)
  ·rename_i j hx;split at he
   ·rename_i es hg;simp only[Option.map_eq_some_iff,Pj]at he;obtain⟨g,hgm,rfl,rfl⟩:=he;exact NgX hs hu hck hz hv hw (.inr ⟨j,es,g,hx,hg,hgm,rfl⟩)
   ·simp at he
  ·simp at he
 case mapUpdate t x i y =>
  simp only[NcJ,Option.bind_eq_bind,Option.bind_eq_some_iff,Sj]at hm;obtain⟨⟨kt,et⟩,hu,ck,hck,a,ha,c,hc,d,hd,rfl⟩:=hm;have hv:=hρ _ _ ha;have hw:=hρ _ _ hc;have hy:=hρ _ _ hd;simp only[execOp,hop];simp only[Nap]at he;split at he
  ·rename_i j hx;split at he
   ·rename_i es hg;simp only[Option.map_eq_some_iff,Pj]at he;obtain⟨es',hgm,rfl,rfl⟩:=he;rw[hx]at hv;exact Nip hs hu hck hv hw hy hg hgm
   ·simp at he
  ·simp at he
 case insert t x i y =>
  simp only[NcJ,Option.bind_eq_bind,Option.bind_eq_some_iff,Sj]at hm;obtain⟨⟨kt,et⟩,hu,ck,hck,a,ha,c,hc,d,hd,rfl⟩:=hm;have hv:=hρ _ _ ha;have hw:=hρ _ _ hc;have hy:=hρ _ _ hd;simp only[execOp,hop];simp only[Nap]at he;split at he
  ·rename_i j hx;split at he
   ·rename_i es hg;simp only[Option.map_eq_some_iff,Pj]at he;obtain⟨es',hgm,rfl,rfl⟩:=he;rw[hx]at hv;exact Nip hs hu hck hv hw hy hg hgm
   ·simp at he
  ·simp at he
 case extract x i =>
  simp only[NcJ,Option.bind_eq_bind,Option.bind_eq_some_iff,Sj]at hm;obtain⟨a,ha,rfl⟩:=hm;simp only[Nap]at he;split at he
  ·rename_i vs hx;simp only[Option.map_eq_some_iff,Pj]at he;obtain⟨q,hq,rfl,rfl⟩:=he;simp only[execOp,hop];exact Nja hs (by have:=hρ _ _ ha;rwa[hx]at this) hq
  ·simp at he
 case makeFunc fn first cap =>
  cases fn<;>simp only[NcJ]at hm
  case func f =>
   split at hm
   ·rename_i hf;simp only[Option.bind_eq_bind,Option.bind_eq_some_iff,Sj]at hm;obtain⟨l,hl,rfl⟩:=hm;simp only[Nap,Sj,Pj]at he;obtain⟨rfl,rfl⟩:=he;simp only[execOp,hop];have hfe:first.map ρc=#[]:=by
     have:first=#[]:=by simpa using hf
     subst this;simp
    rw[hfe];exact Nok hs (by simpa using Ncw hρ hl)
   ·split at hm
    ·rename_i hf;simp only[Option.bind_eq_bind,Option.bind_eq_some_iff,Sj]at hm;obtain⟨l,hl,rfl⟩:=hm;simp only[Nap,Sj,Pj]at he;obtain⟨rfl,rfl⟩:=he;simp only[execOp,hop];have hfe:cap.map ρc=#[]:=by
      have:cap=#[]:=(by simpa using hf);subst this;simp
     rw[hfe];exact Nl9 hs (by simpa using Ncw hρ hl)
    ·simp at hm
  all_goals simp at hm
 case fieldAddr s x f =>
  simp only[NcJ]at hm;split at hm
  ·rename_i fs hu;simp only[Option.bind_eq_bind,Option.bind_eq_some_iff]at hm;obtain⟨fd,hf,n,hn,hm⟩:=hm;split at hm
   ·simp at hm
   ·rename_i h0;simp only[Option.bind_eq_bind,Option.bind_eq_some_iff,Sj]at hm;obtain⟨a,ha,rfl⟩:=hm;simp only[Nap]at he;simp only[execOp,hop];have hv:=hρ _ _ ha;split at he
    ·rename_i k o' hx;simp only[Sj,Pj]at he;obtain⟨rfl,rfl⟩:=he;rw[hx]at hv;exact Nd8 hs hu hf hn h0 hv rfl
    ·rename_i cs hx;simp only[Sj,Pj]at he;obtain⟨rfl,rfl⟩:=he;rw[hx]at hv;exact Nd8 hs hu hf hn h0 hv rfl
    ·simp at he
  ·simp at hm
 case field s x f =>
  simp only[NcJ]at hm;split at hm
  ·rename_i fs hu;simp only[Option.bind_eq_bind,Option.bind_eq_some_iff,Sj]at hm;obtain⟨fd,hf,g,hg,n,hn,a,ha,rfl⟩:=hm;simp only[Nap]at he;simp only[execOp,hop];have hv:=hρ _ _ ha;split at he
   ·rename_i cs hx;split at he
    ·rename_i l hl;simp only[Option.map_eq_some_iff,Pj]at he;obtain⟨q,hq,rfl,rfl⟩:=he;rw[hx]at hv;exact Nl7 hs hu hf hg hn hv hl hq
    ·simp at he
   ·simp at he
  ·simp at hm
 case indexAddr t x i =>
  simp only[NcJ]at hm;split at hm
  ·rename_i n e hu;simp only[Option.bind_eq_bind,Option.bind_eq_some_iff,Sj]at hm;obtain⟨sz,hn,a,ha,b,hb,rfl⟩:=hm;simp only[Nap]at he;simp only[execOp,hop];have hv:=hρ _ _ ha;have hw:=hρ _ _ hb;split at he
   ·rename_i k o' k2 j hx hy;split at he
    ·rename_i hcond;simp only[Sj,Pj]at he;obtain⟨rfl,rfl⟩:=he;rw[hx]at hv;rw[hy]at hw;generalize ρc i=vi at hw ⊢;cases hw;exact NcF hs hu hn hv hcond.1 hcond.2 rfl
    ·simp at he
   ·rename_i cs k2 j hx hy;split at he
    ·rename_i hcond;simp only[Sj,Pj]at he;obtain⟨rfl,rfl⟩:=he;rw[hx]at hv;rw[hy]at hw;generalize ρc i=vi at hw ⊢;cases hw;exact NcF hs hu hn hv hcond.1 hcond.2 rfl
    ·simp at he
   ·simp at he
  ·rename_i e hu;simp only[Option.bind_eq_bind,Option.bind_eq_some_iff,Sj]at hm;obtain⟨sz,hn,a,ha,b,hb,rfl⟩:=hm;simp only[Nap]at he;simp only[execOp,hop];have hv:=hρ _ _ ha;have hw:=hρ _ _ hb;split at he
   ·rename_i k z off n k2 j hx hy;split at he
    ·rename_i hcond;simp only[Sj,Pj]at he;obtain⟨rfl,rfl⟩:=he;rw[hx]at hv;rw[hy]at hw;generalize ρc i=vi at hw ⊢;cases hw;exact NcT hs hu hn hv (by simp only[];rw[if_pos hcond])
    ·simp at he
   ·rename_i n cs k2 j hx hy;split at he
    ·rename_i hcond;simp only[Sj,Pj]at he;obtain⟨rfl,rfl⟩:=he;rw[hx]at hv;rw[hy]at hw;generalize ρc i=vi at hw ⊢;cases hw;exact NcT hs hu hn hv (by simp only[];rw[if_pos hcond])
    ·simp at he
   ·simp at he
  ·simp at hm
 case index t x i =>
  simp only[NcJ]at hm;split at hm
  ·rename_i n e hu;simp only[Option.bind_eq_bind,Option.bind_eq_some_iff,Sj]at hm;obtain⟨g,hg,sz,hn,a,ha,b,hb,rfl⟩:=hm;simp only[Nap]at he;simp only[execOp,hop];have hv:=hρ _ _ ha;have hw:=hρ _ _ hb;split at he
   ·rename_i cs k2 j hx hy;split at he
    ·rename_i hcond;split at he
     ·rename_i l hl;simp only[Option.map_eq_some_iff,Pj]at he;obtain⟨q,hq,rfl,rfl⟩:=he;rw[hx]at hv;rw[hy]at hw;generalize ρc i=vi at hw ⊢;cases hw;exact Nl8 hs hu hg hn hv hcond.1 hcond.2 hl hq
     ·simp at he
    ·simp at he
   ·simp at he
  ·rename_i hu;simp only[Option.bind_eq_bind,Option.bind_eq_some_iff,Sj]at hm;obtain⟨a,ha,b,hb,rfl⟩:=hm;simp only[Nap]at he;simp only[execOp,hop];have hv:=hρ _ _ ha;have hw:=hρ _ _ hb;split at he
   ·rename_i l k2 j hx hy;split at he
    ·rename_i hcond;simp only[Option.map_eq_some_iff,Pj]at he;obtain⟨q,hq,rfl,rfl⟩:=he;rw[hx]at hv;rw[hy]at hw;generalize ρc i=vi at hw ⊢;generalize ρc x=vx at hv ⊢;cases hw;cases hv;exact Nkt hs hu hcond hq
    ·simp at he
   ·simp at he
  ·simp at hm
 case binOp op t x y t2 =>
  simp only[NcJ,Option.bind_eq_bind,Option.bind_eq_some_iff]at hm;obtain⟨a,ha,c,hc,hm⟩:=hm;have hv:=hρ _ _ ha;have hw:=hρ _ _ hc;simp only[execOp,hop];split at hm
  ·simp only[Sj]at hm;subst hm;simp only[Nap,Option.map_eq_some_iff,Pj]at he;obtain⟨q,hq,rfl,rfl⟩:=he;have:=NmR (P:=P) (t:=t) (x:=x) (y:=y) (N:=fun k=>k=key) hs hv hw hq;simpa using this
  ·simp only[Sj]at hm;subst hm;simp only[Nap,Option.map_eq_some_iff,Pj]at he;obtain⟨q,hq,rfl,rfl⟩:=he;have:=NmR (P:=P) (t:=t) (x:=x) (y:=y) (N:=fun k=>k=key) hs hv hw hq;simpa using this
  ·rename_i hu;split at hm
   ·simp only[Sj]at hm;subst hm;simp only[Nap,Option.map_eq_some_iff,Pj]at he;obtain⟨q,hq,rfl,rfl⟩:=he;have:=NmS (x:=x) (y:=y) (N:=fun k=>k=key) hs hu hv hw hq;simpa using this
   ·simp only[Sj]at hm;subst hm;simp only[Nap,Option.map_eq_some_iff,Pj]at he;obtain⟨q,hq,rfl,rfl⟩:=he;have:=NmS (x:=x) (y:=y) (N:=fun k=>k=key) hs hu hv hw hq;simpa using this
   ·simp at hm
  ·rename_i fs hu;simp only[Option.bind_eq_bind,Option.bind_eq_some_iff]at hm;obtain⟨l,hl,hm⟩:=hm;split at hm
   ·simp at hm
   ·rename_i hcond;simp only[Bool.or_eq_true,not_or,Bool.not_eq_true]at hcond;have fin:∀ neg,Nap cfg callE ρ st key (.eqs neg l a c)=some (r,st')→OpOK P base (fun k=>k=key) G st w (do pure (.value (←do eqGuard (if neg then .neq else .eql) t x y (ρc x) (ρc y);binOp (if neg then .neq else .eql) t (ρc x) (ρc y)))) r st':=by
     intro neg he;simp only[Nap]at he;split at he
     ·rename_i ps qs hx hy;simp only[Option.map_eq_some_iff,Pj]at he;obtain⟨q,hq,rfl,rfl⟩:=he;rw[hx]at hv;rw[hy]at hw;exact NpK hs hu hl hcond.1 hcond.2 hv hw hq
     ·simp at he
    split at hm
    ·simp only[Sj]at hm;subst hm;simpa using fin false he
    ·simp only[Sj]at hm;subst hm;simpa using fin true he
    ·simp at hm
  ·rename_i d h1 h2 h3 h4 hu;split at hm
   ·rename_i kd hk2;simp only[Sj]at hm;subst hm;simp only[Nap,Option.map_eq_some_iff,Pj]at he;obtain⟨q,hq,rfl,rfl⟩:=he;have:=NmT (x:=x) (y:=y) (N:=fun k=>k=key) hs hu hk2 hv hw hq;simpa using this
   ·rename_i kd hk2;simp only[Sj]at hm;subst hm;simp only[Nap,Option.map_eq_some_iff,Pj]at he;obtain⟨q,hq,rfl,rfl⟩:=he;have:=NmT (x:=x) (y:=y) (N:=fun k=>k=key) hs hu hk2 hv hw hq;simpa using this
   ·simp at hm
  ·simp at hm
 case convert src dst x =>
  simp only[NcJ,Option.bind_eq_bind,Option.bind_eq_some_iff]at hm;obtain⟨a,ha,hm⟩:=hm;have hv:=hρ _ _ ha;simp only[execOp,hop];generalize ρc x=vx at hv ⊢;split at hm
  ·rename_i k0 k h1 h2;simp only[Sj]at hm;subst hm;simp only[Nap]at he;split at he
   ·rename_i c k1 n hcv hx;simp only[Cv.int.injEq]at hcv;subst hcv;simp only[Sj,Pj]at he;obtain⟨rfl,rfl⟩:=he;rw[hx]at hv;cases hv;exact NhC hs h2 h1
   all_goals first|(rename_i hcv _;simp at hcv;done)|(simp at he;done)|skip
   all_goals simp_all
  ·rename_i h1 h2;simp only[Sj]at hm;subst hm;cases hx:ρ a<;>simp[Nap,hx]at he;obtain⟨rfl,rfl⟩:=he;rw[hx]at hv;cases hv;exact NgW hs h2 h1
  ·rename_i e h1 h2;split at hm
   ·rename_i he';simp only[Sj]at hm;subst hm;cases hx:ρ a<;>simp[Nap,hx]at he;obtain⟨hl,rfl,rfl⟩:=he;rw[hx]at hv;cases hv;exact NpM hs h1 h2 he' hl key rfl hk
   ·simp at hm
  ·rename_i e h1 h2;split at hm
   ·rename_i he';simp only[Sj]at hm;subst hm;simp only[Nap]at he;split at he
    ·rename_i n cs hcs;simp only[Option.map_eq_some_iff,Pj]at he;obtain⟨l,hl,rfl,rfl⟩:=he;exact NpH hs h1 he' h2 hv hcs hl
    ·simp at he
   ·simp at hm
  ·rename_i e0 e h1 h2;split at hm
   ·rename_i he';split at hm
    ·rename_i hsd;subst hsd;simp only[Sj]at hm;subst hm;simp only[Nap]at he;split at he
     ·rename_i k z off n hx;split at he
      ·rename_i cs fz hg;simp only[Sj,Pj]at he;obtain⟨rfl,rfl⟩:=he;rw[hx]at hv;exact Noj hs h2 he' hv hg
      ·simp at he
     ·simp at he
    ·simp at hm
   ·simp at hm
  ·simp at hm
 case makeSlice t l c =>
  simp only[NcJ,Option.bind_eq_bind,Option.bind_eq_some_iff]at hm;obtain⟨e,hu',hm⟩:=hm;have hu:P.underlying t=some (.slice e):=by
   unfold sliceT at hu';split at hu'
   ·rename_i e' he';simp at hu';subst hu';exact he'
   ·simp at hu'
  have key2:∀ {sz bytes:Nat}{z:List PV}{b:Arg},sizeT P e=some sz→bytesT P e=some bytes→zeroT P e=some z→cArg V l=some b→ρc c=ρc l→m=.mkslice sz bytes z b →
   OpOK P base (fun k=>k=key) G st w (execOp ρc o) r st':=by
   intro sz bytes z b hn hby hz hb hcl hmm;subst hmm;simp only[Nap]at he;have hw:=hρ _ _ hb;split at he
   ·rename_i n hx;split at he
    ·rename_i hcond;simp only[Sj,Pj]at he;obtain⟨rfl,rfl⟩:=he;rw[hx]at hw;simp only[execOp,hop,hcl];generalize ρc l=vl at hw ⊢;cases hw;exact Njb hs hu hn hby hz hcond.1 hcond.2.1 hcond.2.2.1 hcond.2.2.2.1 hcond.2.2.2.2 key rfl hk
    ·simp at he
   ·simp at he
  split at hm
  ·rename_i a b;split at hm
   ·rename_i hab;subst hab;simp only[Option.bind_eq_bind,Option.bind_eq_some_iff,Sj]at hm;obtain⟨sz,hn,bytes,hby,z,hz,b,hb,hmm⟩:=hm;exact key2 hn hby hz hb rfl hmm.symm
   ·simp at hm
  ·rename_i a b;split at hm
   ·rename_i hab;subst hab;simp only[Option.bind_eq_bind,Option.bind_eq_some_iff,Sj]at hm;obtain⟨sz,hn,bytes,hby,z,hz,b,hb,hmm⟩:=hm;exact key2 hn hby hz hb rfl hmm.symm
   ·simp at hm
  ·simp at hm
 case slice t x lo hi mx =>
  cases mx with
  |some q=>simp[NcJ]at hm
  |none =>
    simp only[NcJ,Option.bind_eq_bind,Option.bind_eq_some_iff]at hm;obtain⟨a,ha,l,hl,h,hh,hm⟩:=hm;have hv:=hρ _ _ ha;have hlo:=Ngv hρ hl;have hhi:=Ngv hρ hh;simp only[execOp,hop,Option.map_none];split at hm
    ·rename_i n e hu;simp only[Option.bind_eq_bind,Option.bind_eq_some_iff,Sj]at hm;obtain⟨sz,hn,rfl⟩:=hm;simp only[Nap]at he;split at he
     ·rename_i k off hx;split at he
      ·rename_i h' cs fz b1 hg;split at he
       ·rename_i l' b2;split at he
        ·rename_i hcond;simp only[Sj,Pj]at he;obtain⟨rfl,rfl⟩:=he;rw[hx]at hv;exact NgY hs hu hn hv hg hlo hhi b1 b2 hcond.1 hcond.2.1 hcond.2.2.1 hcond.2.2.2
        ·simp at he
       ·simp at he
      ·simp at he
     ·simp at he
    ·rename_i e hu;simp only[Option.bind_eq_bind,Option.bind_eq_some_iff,Sj]at hm;obtain⟨sz,hn,rfl⟩:=hm;simp only[Nap,Option.map_eq_some_iff,Pj]at he;obtain⟨q,hq,rfl,rfl⟩:=he;exact NhD hs hu hn hv hlo hhi hq
    ·rename_i hu;simp only[Sj]at hm;subst hm;simp only[Nap]at he;split at he
     ·rename_i s hx;split at he
      ·rename_i h' b1;split at he
       ·rename_i l' b2;simp only[Sj,Pj]at he;obtain⟨rfl,rfl⟩:=he;rw[hx]at hv;generalize ρc x=vx at hv ⊢;cases hv;exact Nkv hs hu hlo hhi b1 b2
       ·simp at he
      ·simp at he
     ·simp at he
    ·simp at hm
 case call c =>
  simp only[NcJ]at hm;split at hm
  ·split at hm
   ·split at hm<;>(simp only[Sj]at hm;subst hm;simp[MOp.plain]at hpl)
   ·simp at hm
  ·simp only[Option.bind_eq_bind,Option.bind_eq_some_iff,Sj]at hm;obtain⟨_,_,_,_,rfl⟩:=hm;simp[MOp.plain]at hpl
  ·rename_i hca;split at hm
   ·rename_i t u s x hat har;simp only[Option.bind_eq_bind,Option.bind_eq_some_iff]at hm;obtain⟨e,hu',hm⟩:=hm;have hu:P.underlying t=some (.slice e):=by
     unfold sliceT at hu';split at hu'
     ·rename_i e' he';simp at hu';subst hu';exact he'
     ·simp at hu'
    have hat':c.argTypes=#[t,u]:=(by apply Array.ext';simpa using hat);have har':c.args=#[s,x]:=(by apply Array.ext';simpa using har);have hex:execOp ρc o=(do pure (.value (←Builtin.append_ #[t,u] o.type #[ρc s,ρc x]))):=by
     simp[execOp,hop,resolve,hca,hat',har',invoke,builtin]
    rw[hex];split at hm
    ·rename_i e2 hu2;simp only[Option.bind_eq_bind,Option.bind_eq_some_iff,Sj]at hm;obtain⟨z,hz,sz,hn,bytes,hby,a,ha,b,hb,rfl⟩:=hm;simp only[Nap]at he;split at he
     ·rename_i m news hc;split at he
      ·rename_i hcond;obtain⟨nv,h1,h2,h3⟩:=NmV hs hu2 (hρ _ _ hb) hc hcond.2.2;exact NgV hs hu hn hby hz h3 h1 h2 hcond.1 hcond.2.1 (hρ _ _ ha) key rfl hk he
      ·simp at he
     ·simp at he
    ·rename_i hu2;simp only[Option.bind_eq_bind,Option.bind_eq_some_iff]at hm;obtain⟨z,hz,n,hn,bb,hby,hm⟩:=hm;split at hm
     ·rename_i hcond;obtain⟨rfl,rfl⟩:=hcond;simp only[Option.bind_eq_bind,Option.bind_eq_some_iff,Sj]at hm;obtain⟨a,ha,b,hb,rfl⟩:=hm;simp only[Nap]at he;split at he
      ·rename_i l hx;have hv:=hρ _ _ hb;rw[hx]at hv;generalize ρc x=vx at hv ⊢;cases hv;have hsz:(⟨l.toArray⟩:ByteArray).size=l.length:=(by simp[ByteArray.size]);have hbc:byteCells ⟨l.toArray⟩=NaP l:=(by simp[byteCells,NaP]);have h3:=Src.ofString (P:=P) w hu2 ⟨l.toArray⟩;rw[hsz,hbc]at h3;exact NgV hs hu hn hby hz h3 (NeC G l) (by simp[Nbs]) Zaa Zaa (hρ _ _ ha) key rfl hk he
      ·simp at he
     ·simp at hm
    ·simp at hm
   ·simp at hm
  ·rename_i hca;split at hm
   ·rename_i t x hat har;have hat':c.argTypes=#[t]:=(by apply Array.ext';simpa using hat);have har':c.args=#[x]:=(by apply Array.ext';simpa using har);have hex:execOp ρc o=(do pure (.value (←Builtin.len_ #[t] o.type #[ρc x]))):=by
     simp[execOp,hop,resolve,hca,hat',har',invoke,builtin]
    rw[hex];split at hm
    ·rename_i hu;simp only[Option.bind_eq_bind,Option.bind_eq_some_iff,Sj]at hm;obtain⟨a,ha,rfl⟩:=hm;simp only[Nap]at he;split at he
     ·rename_i l hx;simp only[Sj,Pj]at he;obtain⟨rfl,rfl⟩:=he;have hv:=hρ _ _ ha;rw[hx]at hv;generalize ρc x=vx at hv ⊢;cases hv;exact Nom hs hu
     ·simp at he
    ·rename_i e hu;simp only[Option.bind_eq_bind,Option.bind_eq_some_iff,Sj]at hm;obtain⟨a,ha,rfl⟩:=hm;simp only[Nap,Option.map_eq_some_iff,Pj]at he;obtain⟨q,hq,rfl,rfl⟩:=he;exact NpL hs hu (hρ _ _ ha) hq
    ·rename_i n e hu;simp only[Sj]at hm;subst hm;simp only[Nap,Sj,Pj]at he;obtain⟨rfl,rfl⟩:=he;exact Nod hs hu
    ·rename_i kt et hu;simp only[Option.bind_eq_bind,Option.bind_eq_some_iff,Sj]at hm;obtain⟨a,ha,rfl⟩:=hm;have hv:=hρ _ _ ha;simp only[Nap]at he;split at he
     ·rename_i hx;simp only[Sj,Pj]at he;obtain⟨rfl,rfl⟩:=he;exact Nks hs hu hv (.inl ⟨hx,rfl⟩)
     ·rename_i j hx;split at he
      ·rename_i es hg;simp only[Sj,Pj]at he;obtain⟨rfl,rfl⟩:=he;exact Nks hs hu hv (.inr ⟨j,es,hx,hg,rfl⟩)
      ·simp at he
     ·simp at he
    ·simp at hm
   ·simp at hm
  ·rename_i hca;split at hm
   ·rename_i t u d s hat har;simp only[Option.bind_eq_bind,Option.bind_eq_some_iff,Sj]at hm;obtain⟨e,hu',e2,hu2',sz,hn,a,ha,b,hb,rfl⟩:=hm;have hsl:∀ {t e:TypeId},sliceT P t=some e→P.underlying t=some (.slice e):=by
     intro t e hu';unfold sliceT at hu';split at hu'
     ·rename_i e' he';simp at hu';subst hu';exact he'
     ·simp at hu'
    have hat':c.argTypes=#[t,u]:=(by apply Array.ext';simpa using hat);have har':c.args=#[d,s]:=(by apply Array.ext';simpa using har);have hex:execOp ρc o=(do pure (.value (←Builtin.copy_ #[t,u] o.type #[ρc d,ρc s]))):=by
     simp[execOp,hop,resolve,hca,hat',har',invoke,builtin]
    rw[hex];simp only[Nap]at he;split at he
    ·rename_i m cs hc;exact Nog hs (hsl hu') (hsl hu2') hn (hρ _ _ ha) (hρ _ _ hb) hc he
    ·simp at he
   ·simp at hm
  ·rename_i hca;split at hm
   ·rename_i x ys har;simp only[Option.bind_eq_bind,Option.bind_eq_some_iff,Sj]at hm;obtain⟨a,ha,b,hb,rfl⟩:=hm;simp only[Nap,Option.map_eq_some_iff,Pj]at he;obtain⟨q,hq,rfl,rfl⟩:=he;obtain⟨u,hu,hr⟩:=Nkd (P:=P) w (Ncw hρ hb) (hρ _ _ ha) hq;refine OpOK.same hs (v:=u) ?_ hr;have har':c.args=(x::ys).toArray:=(by apply Array.ext';simpa using har);simp[execOp,hop,resolve,hca,har',invoke,builtin,Builtin.max_,hu]
   ·simp at hm
  ·rename_i hca;split at hm
   ·rename_i x ys har;simp only[Option.bind_eq_bind,Option.bind_eq_some_iff,Sj]at hm;obtain⟨a,ha,b,hb,rfl⟩:=hm;simp only[Nap,Option.map_eq_some_iff,Pj]at he;obtain⟨q,hq,rfl,rfl⟩:=he;obtain⟨u,hu,hr⟩:=Nke (P:=P) w (Ncw hρ hb) (hρ _ _ ha) hq;refine OpOK.same hs (v:=u) ?_ hr;have har':c.args=(x::ys).toArray:=(by apply Array.ext';simpa using har);simp[execOp,hop,resolve,hca,har',invoke,builtin,Builtin.min_,hu]
   ·simp at hm
  ·simp at hm
 all_goals (simp[NcJ]at hm)
end
section
variable {P:Program}{V:List Nat}{base:Nat}{N:Nat→Prop}{G:Ghost}{st:St}{w:World}
theorem Nkp(hs:Sim G st w base){e:TypeId}(h:Nfv P e=true)(key:Nat)(hN:N key)(hk:G.B key=none) :
 OpOK P base N G st w (do pure (.value (←Instr.alloc e true (.tuple #[])))) (.ptr key 0) (st.put key (some (.bld e))):=by
 unfold Nfv at h;split at h
 ·rename_i hz;obtain⟨v,i,hi,hv,hl,hc,hsz,_,hrun⟩:=NbM (G:=G) hz;obtain⟨a,b,e1,r1,r2⟩:=hc.two;cases r1;cases r2;have hcells:v.cells=#[.pointer none,.slice none 0 0]:=by apply Array.ext';rw[e1]
  obtain⟨G',hB,hst⟩:=Step.allocM hs key hN hk (.bld e) (.cells #[.pointer none,.slice none 0 0] e (0,0)) 2 Zaf (fun G'=>⟨rfl,rfl⟩);exact⟨_,_,G',by simp[Instr.alloc,hrun,newVar,newRow,hcells],.inl ⟨_,rfl,.ptr key 0 _ _ hB⟩,hst⟩
 ·cases h
theorem Nhv{p:PV}(h:Neq p=true):p=.agg [.nptr,.nsl]:=by
 unfold Neq at h;split at h
 ·rfl
 ·cases h
theorem Noe(hs:Sim G st w base){e:TypeId}(h:Nfv P e=true){v:Value}(hv:VRel G v (.agg [.nptr,.nsl]))(key:Nat)(hN:N key)(hk:G.B key=none) :
 OpOK P base N G st w (do pure (.value (←Instr.box e v))) (.ptr key 0) (st.put key (some (.bld e))):=by
 obtain⟨vs,rfl,hc⟩:=hv.agg_inv;obtain⟨a,b,e1,r1,r2⟩:=hc.two;cases r1;cases r2;have hcells:(Value.agg vs).cells=#[.pointer none,.slice none 0 0]:=by apply Array.ext';exact e1
 obtain⟨G',hB,hst⟩:=Step.allocM hs key hN hk (.bld e) (.cells #[.pointer none,.slice none 0 0] e (0,0)) 2 Zaf (fun G'=>⟨rfl,rfl⟩);exact⟨_,_,G',by simp[Instr.box,newVar,newRow,hcells],.inl ⟨_,rfl,.ptr key 0 _ _ hB⟩,hst⟩
theorem NpJ(hs:Sim G st w base){t te:TypeId}{j:TypeInfo}(hu:P.underlying t=some (.pointer te))(hj:P.info? te=some j){x y:Operand}{a c:Value}{k o:Nat}(ha:VRel G a (.ptr k o))(hc:VRel G c (.ptr k o)) :
 OpOK P base N G st w (do pure (.value (←do eqGuard .neq t x y a c;binOp .neq t a c))) (.b false) st:=by
 cases ha with
 |ptr _ _ blk size hB=>cases hc with
   |ptr _ _ blk2 size2 hB2 =>
     rw[hB]at hB2;simp only[Sj,Pj]at hB2;obtain⟨rfl,rfl⟩:=hB2;have h1:=Lib.run_neq_ptr_same (P:=P) w ⟨blk,o,none⟩ hu hj;have hg:eqGuard .neq t x y (.pointer (some ⟨blk,o,none⟩)) (.pointer (some ⟨blk,o,none⟩))=pure ():=rfl;exact OpOK.same hs (v:=.bool false) (by simp[hg,h1]) (.b _)
theorem Nry(hs:Sim G st w base){src dst t:TypeId}(h1:P.underlying src=some (.pointer t))(h2:P.underlying dst=some .unsafePointer){n:Nat}(hn:sizeT P t=some n)(h0:n≠0){v:Value}{k:Nat}(hv:VRel G v (.ptr k 0)){T:TypeId}(hg:st.get k=some (.bld T)) :
 OpOK P base N G st w (do pure (.value (←convert src dst v))) (.ptr k 0) st:=by
 obtain⟨j,hj,hjs⟩:=Option.map_eq_some_iff.1 hn;cases hv with
 |ptr _ _ blk size hB =>
   obtain⟨obj,g1,rfl,rfl⟩:=hs.mps k _ blk size hg hB;have hr:=Lib.run_to_unsafe (P:=P) w (src:=src) (dst:=dst) (t:=t) (e:=T) (j:=j) (cells:=2) ⟨blk,0,none⟩ h1 h2 hj (by rw[hjs];exact h0) (by simp[World.shape?,g1]) Zaf;exact OpOK.same hs (by simp[hr]) (.ptr k 0 blk 2 hB)
theorem Noh(hs:Sim G st w base){src dst u:TypeId}(h1:P.underlying src=some .unsafePointer)(h2:P.underlying dst=some (.pointer u))(hu:(P.info? u).isSome){v:Value}{k:Nat}(hv:VRel G v (.ptr k 0)){T:TypeId}(hg:st.get k=some (.bld T))(hT:T∈Nn3 P u) :
 OpOK P base N G st w (do pure (.value (←convert src dst v))) (.ptr k 0) st:=by
 obtain⟨j,hj⟩:=Option.isSome_iff_exists.1 hu;cases hv with
 |ptr _ _ blk size hB =>
   obtain⟨obj,g1,rfl,rfl⟩:=hs.mps k _ blk size hg hB;have hl:liesAt P P.depth T (2 / P.cellsOf T) 0 u 1=true:=by
    have:=(List.mem_filter.1 hT).2;simp only[Bool.and_eq_true]at this;exact this.2
   have hr:=Lib.run_from_unsafe (P:=P) w (src:=src) (dst:=dst) (u:=u) (e:=T) (j:=j) (cells:=2) ⟨blk,0,none⟩ h1 h2 hj (by simp[World.shape?,g1]) hl;exact OpOK.same hs (by simp[hr]) (.ptr k 0 blk 2 hB)
theorem Nir(hs:Sim G st w base){ts:Array TypeId}{ty:TypeId}{v:Value}{p r:PV}(hv:VRel G v p)(h:(match p with|.nsl=>some PV.nptr|.rsl k 1 0 (_+1)=>some (.ptr k 0)|_=>none)=some r) :
 OpOK P base N G st w (do pure (.value (←Builtin.unsafeSliceData_ ts ty #[v]))) r st:=by
 cases hv with
 |nsl =>
   simp only[Sj]at h;subst h;exact OpOK.same hs (v:=.pointer none) (by rw[Sem.run_bind,Lib.run_unsafeSliceData_nil];rfl) .nptr
 |rsl k sz off n blk size cap hB hc hm hz hz0 =>
   have hh:sz=1∧off=0∧0<n∧r=.ptr k 0:=by
    revert h
    match sz,off,n with
    |1,0,n+1=>intro h;simp only[Sj]at h;exact⟨rfl,rfl,by omega,h.symm⟩
    |1,0,0=>intro h;cases h
    |0,_,_=>intro h;cases h
    |_+2,_,_=>intro h;cases h
    |1,_+1,_=>intro h;cases h
   obtain⟨rfl,rfl,h0,rfl⟩:=hh;exact OpOK.same hs (v:=.pointer (some ⟨blk,0,none⟩)) (by rw[Sem.run_bind,Lib.run_unsafeSliceData_row _ _ _ _ _ _ (by omega)];rfl) (.ptr _ 0 blk size hB)
 |_=>simp at h
theorem Njy(l:List UInt8):NaP l=Lib.byteCells l:=rfl
theorem NgH(w:World)(blk n:Nat)(hn:n≠0):(∀ j,j≠blk→(w.freeze ⟨blk,0,none⟩ n).heap[j]? = w.heap[j]?)∧(w.freeze ⟨blk,0,none⟩ n).heap.size=w.heap.size∧(w.freeze ⟨blk,0,none⟩ n).os=w.os∧(w.freeze ⟨blk,0,none⟩ n).tape=w.tape∧(w.freeze ⟨blk,0,none⟩ n).output=w.output:=by
 unfold World.freeze;rw[if_neg hn];refine⟨fun j hj=>?_,by simp,rfl,rfl,rfl⟩;show(w.heap.modify blk _)[j]? = _;by_cases hjl:j<w.heap.size
 ·rw[Array.getElem?_eq_getElem (by simpa using hjl),Array.getElem_modify_of_ne Zaa,Array.getElem?_eq_getElem hjl]
 ·rw[Array.getElem?_eq_none (by simpa using hjl),Array.getElem?_eq_none Zaa]
theorem NiT(st:St)(k:Nat):∀ j x,(st.put k none).get j=some x→j≠k∧st.get j=some x:=by
 intro j x h;rcases St.get_put h with⟨_,e⟩|⟨hne,h'⟩
 ·simp at e
 ·exact⟨fun e=>hne e.symm,h'⟩
theorem Sim.less0{G:Ghost}{st st2:St}{w:World}{base:Nat}(h:Sim G st w base)(hl:∀ j x,st2.get j=some x→st.get j=some x):Sim G st2 w base:=by
 have hl':∀ j,(st2.get j).isSome→(st.get j).isSome:=by
  intro j hj;obtain⟨x,hx⟩:=Option.isSome_iff_exists.1 hj;rw[hl j x hx];rfl
 exact⟨h.bas,h.frz,fun k cs z b s hg=>h.cells k cs z b s (hl _ _ hg),fun k cs b s hg=>h.frzd k cs b s (hl _ _ hg),fun k cs b s hg=>h.free k cs b s (hl _ _ hg),
  fun k k' x x' a b=>h.inj k k' x x' (hl' _ a) (hl' _ b),fun k x a=>h.low k x (hl' _ a),fun k es b s hg=>h.mps k es b s (hl _ _ hg)⟩
theorem Step.lose{base:Nat}{N:Nat→Prop}{G:Ghost}{st:St}{w w':World}(h:Sim G st w base)(k:Nat){po:PObj}(hg:st.get k=some po)(hop:po.opn=true){blk size:Nat}(hB:G.B k=some (blk,size))
 (ho:∀ j,j≠blk→w'.heap[j]? = w.heap[j]?) (hsz:w'.heap.size=w.heap.size) (hos:w'.os=w.os) (hta:w'.tape=w.tape) (hou:w'.output=w.output):Step base N G st w G (st.put k none) w':=by
 have hks:(st.get k).isSome:=by rw[hg];rfl
 have hls:=NiT st k;have hsome:∀ j,((st.put k none).get j).isSome→j≠k∧(st.get j).isSome:=by
  intro j hj;obtain⟨x,hx⟩:=Option.isSome_iff_exists.1 hj;obtain⟨a,b⟩:=hls j x hx;exact⟨a,by rw[b];rfl⟩
 have ne:∀ j x,((st.put k none).get j).isSome→G.B j=some x→x.1≠blk:=fun j x hj hBj e=>(hsome j hj).1 (h.inj j k x (blk,size) (hsome j hj).2 hks hBj hB e);have hfree:=h.free k po blk size hg hop hB;have h0:=h.less0 (fun j x hx=>(hls j x hx).2);refine⟨.refl G,fun _ _ h=>.inl h,⟨by rw[hsz];exact h.bas,?_,?_,?_,h0.free,h0.inj,fun j x hj hBj=>by rw[hsz];exact h0.low j x hj hBj,?_⟩,hos,hta,hou,by omega,?_,?_,fun _ _ _ h=>.inl h,fun j hj=>.inl (hsome j hj).2⟩
 ·intro b o u hu;have hne:b≠blk:=by rintro rfl;rw[hfree o]at hu;cases hu
  rw[World.cell?_of_block (ho b hne)];exact h.frz b o u hu
 ·intro j cs z b s hj hBj;obtain⟨c0,t0,m0,q1,q2⟩:=h0.cells j cs z b s hj hBj;exact⟨c0,t0,m0,by rw[ho b (ne j (b,s) (by rw[hj];rfl) hBj)];exact q1,q2⟩
 ·intro j cs b s hj hBj;exact h0.frzd j cs b s hj hBj
 ·intro j es b s hj hBj;obtain⟨e0,q1,q2⟩:=h0.mps j es b s hj hBj;exact⟨e0,by rw[ho b (ne j (b,s) (by rw[hj];rfl) hBj)];exact q1,q2⟩
 ·intro j hj hno;exact ho j (fun e=>hno k (blk,size) hks hB e.symm)
 ·intro j x hj hBj;exact .inr ⟨j,x,(hsome j hj).2,hBj,rfl⟩
theorem Nmc(hs:Sim G st w base){pt it ty:TypeId}{v n:Value}(hv:VRel G v .nptr)(hn:VRel G n (.i .i64 0)) :
 OpOK P base N G st w (do pure (.value (←Builtin.unsafeString_ #[pt,it] ty #[v,n]))) (.s []) st:=by
 cases hv;cases hn;exact OpOK.same hs (v:=.string .empty) (by rw[Sem.run_bind,Lib.run_unsafeString_none];rfl) (.s [])
theorem Non(hs:Sim G st w base){pt it ty e:TypeId}(hp:P.underlying pt=some (.pointer e))(hc:P.cellsOf e=1){v n:Value}{k:Nat}{l:List UInt8}(hv:VRel G v (.ptr k 0))(hn:VRel G n (.i .i64 l.length))(hg:st.get k=some (.bytes e l))(hl:0<l.length)(h63:l.length≤maxBytes) :
 OpOK P base N G st w (do pure (.value (←Builtin.unsafeString_ #[pt,it] ty #[v,n]))) (.s l) st:=by
 cases hn;cases hv with
 |ptr _ _ blk size hB =>
   obtain⟨obj,g1,cur,m,rfl,g2,g3,g4,g5⟩:=hs.mps k _ blk size hg hB;have hlow:=(hs.low k (blk,size) (by rw[hg];rfl) hB).2;obtain⟨f1,f2,f3,f4,f5⟩:=NgH w blk l.length Zaa;have hcl:∀ j x,l[j]? = some x→w.cell? ((⟨blk,0,none⟩:Addr).add j)=some (.int .u8 x.toNat):=by
    intro j x hx;rw[Addr.add_mid,Nat.zero_add];have hj:j<l.length:=(List.getElem?_eq_some_iff.1 hx).1;have h1:(cur.toList.take l.length)[j]? = some (.int .u8 x.toNat):=(by rw[g5];simp[Lib.byteCells,hx]);rw[List.getElem?_take,if_pos hj]at h1;simp only[World.cell?,g1];simpa using h1
   have hr:=Lib.run_unsafeString_row (P:=P) w pt it ty e hp hc blk cur.size (by simp[World.shape?,g1]) l (by rintro rfl;simp at hl) Zaa (by unfold maxBytes at h63;omega) hcl;have hlt:blk<w.heap.size:=(Array.getElem?_eq_some_iff.1 g1).1;have hbk:w.heap[blk]=.cells cur e m:=(by simpa[Array.getElem?_eq_getElem hlt]using g1);have hfr:(w.freeze ⟨blk,0,none⟩ l.length).heap[blk]? = some (.cells cur e (if m.1==m.2 then(0,0+l.length)else(min m.1 0,max m.2 (0+l.length)))):=by
    unfold World.freeze;rw[if_neg Zaa];show(w.heap.modify blk _)[blk]? = _;rw[Array.getElem?_eq_getElem (by simpa using hlt),Array.getElem_modify_self,hbk]
   have hcell:∀ b o,(w.freeze ⟨blk,0,none⟩ l.length).cell? ⟨b,o,none⟩=w.cell? ⟨b,o,none⟩:=by
    intro b o;by_cases eb:b=blk
    ·subst eb;simp only[World.cell?,hfr,g1]
    ·exact World.cell?_of_block (f1 b eb)
   have ne:∀ j x,j≠k→(st.get j).isSome→G.B j=some x→x.1≠blk:=fun j x hj hjs hBj eb=>hj (hs.inj j k x (blk,size) hjs (by rw[hg];rfl) hBj hB eb);refine⟨_,_,G,by rw[Sem.run_bind,hr];rfl,.inl ⟨_,rfl,.s l⟩,?_⟩;refine⟨.refl G,fun _ _ h=>.inl h,?_,f3,f4,f5,by omega,?_,fun k x a b=>.inr ⟨k,x,a,b,rfl⟩,fun _ _ _ h=>.inl h,fun _ h=>.inl h⟩
   ·refine⟨by rw[f2];exact hs.bas,fun b o u hu=>by rw[hcell];exact hs.frz b o u hu,?_,hs.frzd,hs.free,hs.inj,fun k x a b=>by rw[f2];exact hs.low k x a b,?_⟩
    ·intro j cs z b s hj hBj;obtain⟨c0,t0,m0,q1,q2⟩:=hs.cells j cs z b s hj hBj;have hjk:j≠k:=(by rintro rfl;rw[hg]at hj;cases hj);exact⟨c0,t0,m0,by rw[f1 b (ne j (b,s) hjk (by rw[hj];rfl) hBj)];exact q1,q2⟩
    ·intro j es b s hj hBj;by_cases hjk:j=k
     ·subst hjk;rw[hg]at hj;cases hj;rw[hB]at hBj;simp only[Sj,Pj]at hBj;obtain⟨rfl,rfl⟩:=hBj;refine⟨_,hfr,cur,_,rfl,?_,g3,g4,g5⟩;split
      ·simp only;omega
      ·simp only;omega
     ·obtain⟨obj,q1,q2⟩:=hs.mps j es b s hj hBj;exact⟨obj,by rw[f1 b (ne j (b,s) hjk (by rw[hj];rfl) hBj)];exact q1,q2⟩
   ·intro j hj hno;exact f1 j (fun eb=>hno k (blk,size) (by rw[hg];rfl) hB eb.symm)
theorem Nkq(hs:Sim G st w base){t tx ty e:TypeId}(hu:P.underlying t=some (.slice e))(hn:sizeT P e=some 1)(hby:bytesT P e=some 1){z:List PV}(hz:zeroT P e=some z){x:Value}{l:List UInt8}(hsrc:Src P 1 tx x l.length (NaP l) w)
 {v:Value}{p r:PV}{st':St}(hv:VRel G v p) (key:Nat) (hN:N key) (hk:G.B key=none)
 (h:Nec st key e l p=some (r,st')):OpOK P base N G st w (do pure (.value (←Builtin.append_ #[t,tx] ty #[v,x]))) r st':=by
 obtain⟨zv,i,hi,hzv,hlz,hzc,hvs,_,hrun⟩:=NbM (G:=G) hz;obtain⟨i1,hi1,hs1⟩:=Option.map_eq_some_iff.1 hn;obtain⟨i2,hi2,hs2⟩:=Option.map_eq_some_iff.1 hby;rw[hi]at hi1 hi2;simp only[Sj]at hi1 hi2;subst hi1;subst hi2;have hlc:(NaP l).length=l.length:=by simp[NaP]
 have grow:∀ (a:Option Addr) (n cap:Nat) (m:List UInt8) (st0:St),Sim G st0 w base→n≤cap→cap<n+l.length→n+l.length≤maxBytes→n=m.length →
  (Builtin.firstCells 1 n (.slice a n cap)).run P w.drew=.ok (NaP m).toArray w.drew →
  OpOK P base N G st0 w (do pure (.value (←Builtin.append_ #[t,tx] ty #[.slice a n cap,x]))) (.rsl key 1 0 (n+l.length)) (st0.put key (some (.bytes e (m++l)))):=by
  intro a n cap m st0 hs0 hnc hg hbb hml hfc;unfold maxBytes at hbb;have hmc:(NaP m).length=m.length:=by simp[NaP]
  have hr:=run_append_grow_src (P:=P) w t tx ty e i zv hu hi hzv a n cap (NaP m) (by rw[hs1];exact hfc) x l.length (NaP l) (by rw[hs1];exact hsrc) hg Zaa (growslice_fits hg (by rw[hs2];omega));have hc1:=grownCap_ge w (n+l.length) cap e;have hc2:=grownCap_le_maxLen w (n+l.length) cap e (by unfold maxLen;omega);have hll:(NaP m++NaP l).length=n+l.length:=by rw[List.length_append,hmc,hlc,hml]
  have hcur:((NaP m++NaP l).toArray++Builtin.zeroCells zv.cells (grownCap w (n+l.length) cap e - (n+l.length))).size=grownCap w (n+l.length) cap e:=by
   rw[Array.size_append,List.size_toArray,hll,size_zeroCells,hvs,hs1];omega
  obtain⟨G',hB,hst⟩:=Step.allocM (w:=w.drew) (hs0.drewN 1) key hN hk (.bytes e (m++l)) (.cells ((NaP m++NaP l).toArray++Builtin.zeroCells zv.cells (grownCap w (n+l.length) cap e - (n+l.length))) e (0,0)) (grownCap w (n+l.length) cap e) Zaf
   (fun G'=>⟨_,_,rfl,Nat.zero_le _,hcur,by rw[List.length_append];omega,by
    rw[Array.toList_append,List.length_append,←hml,List.take_append_of_le_length (by simp only[];rw[hll];exact Nat.le_refl _),List.take_of_length_le (by simp only[];rw[hll];exact Nat.le_refl _),Lib.byteCells_append];rfl⟩)
  refine⟨.value (.slice (some ⟨w.heap.size,0,none⟩) (n+l.length) (grownCap w (n+l.length) cap e)),_,G',by simp only[Sem.run_bind,hr,Result.andThen_ok,Sem.run_pure],.inl ⟨_,rfl,?_⟩,(Step.drew hs0).trans hst (fun _ h=>h) (fun _ h=>h)⟩;exact .rsl key 1 0 (n+l.length) w.heap.size _ _ hB hc1 hc2 Zaa Zaa
 cases hv with
 |nsl =>
   simp only[Nec]at h;split at h
   ·rename_i h0;simp only[Sj,Pj]at h;obtain⟨rfl,rfl⟩:=h;have hk0:(∃ e',P.underlying tx=some (.slice e'))∨P.underlying tx=some .string:=hsrc.kind;have hnv:NaP l=[]:=List.eq_nil_of_length_eq_zero (by rw[hlc];exact h0);have hcells:=hsrc.cells;have hlen:=hsrc.len;rw[h0]at hcells hlen;rw[hnv]at hcells;refine OpOK.same hs (v:=.slice none 0 0) ?_ .nsl;rcases hk0 with⟨e',hk⟩|hk<;>simp[Builtin.append_,run_underlying hu,run_underlying hk,sizeOf,typeInfo,hi,hlen,hs1,hcells]
   ·split at h
    ·rename_i h0 hbb;simp only[Sj,Pj]at h;obtain⟨rfl,rfl⟩:=h;have:=grow none 0 0 [] st hs (Nat.le_refl _) Zaa Zaa rfl (by simp[Builtin.firstCells,NaP]);simpa using this
    ·cases h
 |rsl k zz off n blk size cap hB hc hm hzs hz0 =>
   simp only[Nec]at h;split at h
   ·rename_i T' m hg;split at h
    ·rename_i hcond;obtain⟨rfl,rfl,rfl,hnm,hbb⟩:=hcond;simp only[Sj,Pj]at h;obtain⟨rfl,rfl⟩:=h;obtain⟨obj,g1,cur,mk,rfl,g2,g3,g4,g5⟩:=hs.mps k _ blk size hg hB;have hmc:(NaP m).length=m.length:=(by simp[NaP]);by_cases hroom:n+l.length≤cap
     ·have hr:=run_append_room_src (P:=P) w t tx ty T' i hu hi blk 0 n cap x l.length (NaP l) (by rw[hs1];exact hsrc) hroom
       (by intro j hj;rw[hs1,hlc]at *;have:0+n * 1+j<cur.size:=by omega
           simp[World.cell?,g1];omega)
       (by intro j hj
           rw[hs1,hlc]at *;simp only[World.frozen?,g1];simp;omega)
      rw[Nat.zero_add,hs1,Nat.mul_one,hnm]at hr;obtain⟨⟨cur',f1,f2⟩,f3,f4,f5,f6,f7⟩:=Nbg blk (NaP l) m.length w cur T' mk g1 (by rw[hlc];omega);have hsz':cur'.size=size:=by
       have:=congrArg List.length f2;simp only[Array.length_toList,List.length_append,List.length_take,List.length_drop,hlc]at this;omega
      obtain⟨G',hB',hst⟩:=Step.writeO hs k key (.inr hN) (.bytes T' m) (.bytes T' (m++l)) rfl rfl blk size hg hB (.inr hk) cur' T' mk f1 (fun cs0 z e=>by cases e)
       (fun G'=>⟨cur',mk,rfl,by rw[List.length_append];omega,hsz',by rw[List.length_append];omega,by
        rw[f2,List.length_append,Lib.byteCells_append,←g5];have e1:(cur.toList.take m.length++NaP l).length=m.length+l.length:=by
         have h1:cur.toList.length=cur.size:=Array.length_toList;rw[List.length_append,hlc,List.length_take,h1];omega
        rw[←e1];exact List.take_left' rfl⟩) f3 f4 f5 f6 f7
      refine⟨.value (.slice (some ⟨blk,0,none⟩) (n+l.length) cap),_,G',by simp only[Sem.run_bind,hnm,hr,Result.andThen_ok,Sem.run_pure],.inl ⟨_,rfl,?_⟩,hst⟩;exact .rsl key 1 0 (n+l.length) blk size cap hB' hroom hm Zaa Zaa
     ·have hlose:Step base N G st w G (st.put k none) w:=Step.lose hs k hg rfl hB (fun _ _=>rfl) rfl rfl rfl rfl;have hfc:(Builtin.firstCells 1 n (.slice (some ⟨blk,0,none⟩) n cap)).run P w.drew=.ok (NaP m).toArray w.drew:=by
       refine run_firstCells_some (P:=P) w.drew 1 n ⟨blk,0,none⟩ n cap (NaP m) (by rw[hmc];omega) ?_;intro j u hj;rw[Addr.add_mid,Njy,←g5]at *;rw[List.getElem?_take]at hj;split at hj
       ·have:cur[j]? = some u:=(by simpa using hj);show w.cell? _=_;simp[World.cell?,g1,this]
       ·simp at hj
      obtain⟨n1,w1,G1,e1,e2,e3⟩:=grow (some ⟨blk,0,none⟩) n cap m (st.put k none) hlose.sim hc Zaa hbb hnm hfc;exact⟨n1,w1,G1,e1,e2,hlose.trans e3 (fun _ h=>h) (fun _ h=>h)⟩
    ·cases h
   ·cases h
 |_=>simp[Nec]at h
theorem NpE : Extern.allNextRows.lookup "internal/abi.NoEscape" = none := by kernel_rfl
theorem NmO : Extern.allNextRows.lookup "" = none := by kernel_rfl
theorem NpF (a b c : Array TypeId) : ((Extern.allGenericRows.lookup "internal/abi.NoEscape").map (· a b c) <|> (Extern.allTypedRows.lookup "internal/abi.NoEscape").map (· b c) <|> Extern.allRows.lookup "internal/abi.NoEscape") = some Extern.AbiNoEscape.same := by kernel_rfl
theorem Nru : Extern.allNextRows.lookup "internal/bytealg.MakeNoZero" = none := by kernel_rfl
theorem Nrv (a b c : Array TypeId) : ((Extern.allGenericRows.lookup "internal/bytealg.MakeNoZero").map (· a b c) <|> (Extern.allTypedRows.lookup "internal/bytealg.MakeNoZero").map (· b c) <|> Extern.allRows.lookup "internal/bytealg.MakeNoZero") = some (Extern.BytealgMakeNoZero.makeNoZero b c) := by kernel_rfl
theorem Nof(hs:Sim G st w base){t e ty:TypeId}(hu:P.underlying t=some (.slice e)){v:Value}(hv:VRel G v .nsl):OpOK P base N G st w (do pure (.value (←Builtin.cap_ #[t] ty #[v]))) (.i .i64 0) st:=by
 cases hv;exact OpOK.same hs (v:=.int .i64 0) (by simp[Builtin.cap_,run_underlying hu,goInt]) (.i _ _)
theorem Nl6(hs:Sim G st w base){t tx ty e e':TypeId}(hu:P.underlying t=some (.slice e))(hux:P.underlying tx=some (.slice e')){n:Nat}(hn:sizeT P e=some n){d s:Value}{k z off m:Nat}(hd:VRel G d (.rsl k z off m))(hv:VRel G s .nsl) :
 OpOK P base N G st w (do pure (.value (←Builtin.copy_ #[t,tx] ty #[d,s]))) (.i .i64 0) st:=by
 cases hv;cases hd with
 |rsl _ _ _ _ blk size cap hB hc hm hz hz0 =>
   exact OpOK.same hs (v:=.int .i64 0) (by simp[Builtin.copy_,run_underlying hu,Builtin.lenOf,NaS hn,Builtin.firstCells,storeCells,goInt]) (.i _ _)
theorem Nol (hs : Sim G st w base) {f : FuncId} {fn : Func} {t e : TypeId} (hf : P.funcs[f]? = some fn) (hnm : fn.name = "internal/bytealg.MakeNoZero") (hor : fn.origin = "") (hb : fn.body.isNone = true) (hrt : fn.resultTypes = #[t]) (hu : P.underlying t = some (.slice e)) {v : Value} {n : Int} (hv : VRel G v (.i .i64 n)) (h0 : 0 ≤ n) (hn : n.toNat ≤ maxBytes) (key : Nat) (hN : N key) (hk : G.B key = none) :
 OpOK P base N G st w (callFunc f #[v]) (.rsl key 1 0 n.toNat) (st.put key (some (.bytes e []))):=by
 cases hv;obtain⟨m,rfl⟩:∃ m:Nat,n=m:=⟨n.toNat,by omega⟩;simp only[Int.toNat_natCast]at hn ⊢;have h1:Extern.findNext fn=none:=by
  show(((Extern.allNextRows.lookup fn.name).map (· fn.params fn.resultTypes)) <|> ((Extern.allNextRows.lookup fn.origin).map (· fn.params fn.resultTypes)))=none;rw[hnm,hor,Nru,NmO];rfl
 have h2:Extern.find fn=some (Extern.BytealgMakeNoZero.makeNoZero fn.params fn.resultTypes):=by
  have:=Nrv fn.targs fn.params fn.resultTypes;unfold Extern.find;simp only[hnm,this];rfl
 have hr:=run_callFunc_extern (P:=P) hf (by rw[hnm];rfl) hb h1 h2 #[.int .i64 (m:Int)] w;obtain⟨cs,hc,hle,hmx⟩:=Lib.run_makeNoZero (P:=P) w fn.params t e hu m (by unfold maxBytes at hn;omega);rw[hrt,hc]at hr;obtain⟨G',hB,hst⟩:=Step.allocM (w:=w.drew.drew) ((hs.drewN 1).drewN 1) key hN hk (.bytes e []) (.cells cs e) cs.size Zaf (fun G'=>⟨cs,(0,0),rfl,Nat.le_refl _,rfl,Nat.zero_le _,rfl⟩);have hm:=hmx (by unfold maxBytes at hn;unfold maxLen;omega);refine⟨.value (.slice (some ⟨w.heap.size,0,none⟩) m cs.size),_,G',by rw[hr];rfl,.inl ⟨_,rfl,.rsl key 1 0 m w.heap.size cs.size cs.size hB hle hm Zaa Zaa⟩,((Step.drew hs).trans (Step.drew (hs.drewN 1)) (fun _ h=>h) (fun _ h=>h)).trans hst (fun _ h=>h) (fun _ h=>h)⟩
theorem NcC{t e:TypeId}(h:sliceT P t=some e):P.underlying t=some (.slice e):=by
 unfold sliceT at h;split at h
 ·rename_i e' he';simp only[Sj]at h;subst h;exact he'
 ·cases h
theorem Ngu:∀ {cs:List PV}{l:List UInt8},bytesOf? cs=some l→cs.all PV.one=true∧cs.length=l.length
 |[],l,h=>by simp only[bytesOf?,Sj]at h;subst h;exact⟨rfl,rfl⟩
 |.i .u8 n::r,l,h=>by
   simp only[bytesOf?]at h;split at h
   ·simp only[Option.map_eq_some_iff]at h;obtain⟨m,hm,rfl⟩:=h;obtain⟨h1,h2⟩:=Ngu hm;exact⟨by simp only[List.all_cons,h1,Bool.and_true];rfl,by simp[h2]⟩
   ·cases h
variable {ρc:Operand→Value}{ρ:Arg→PV}
theorem NiO{b:Bool}{cfg:Cfg}{callE:CallE}{o:Oper}{m:MOp}(hm:Nk3 P V b o.op=some m)(hs:Sim G st w base)(hρ:∀ x y,cArg V x=some y→VRel G (ρc x) (ρ y))(hfn0:∀ f,ρc (.func f)=.func (.func f) #[] #[]){key:Nat}(hk:G.B key=none)
 {r:PV}{st':St}(he:Nap cfg callE ρ st key m=some (r,st')):OpOK P base (fun k=>k=key) G st w (execOp ρc o) r st':=by
 cases hop:o.op<;>rw[hop]at hm
 case alloc e =>
  simp only[Nk3]at hm;split at hm
  ·rename_i hb;simp only[Sj]at hm;subst hm;simp only[Nap,Sj,Pj]at he;obtain⟨rfl,rfl⟩:=he;simp only[execOp,hop];exact Nkp hs hb key rfl hk
  ·cases hm
 case box e x =>
  simp only[Nk3]at hm;split at hm
  ·rename_i hb;simp only[Option.bind_eq_bind,Option.bind_eq_some_iff,Sj]at hm;obtain⟨a,ha,rfl⟩:=hm;have hv:=hρ _ _ ha;simp only[Nap]at he;split at he
   ·rename_i hx;simp only[Sj,Pj]at he;obtain⟨rfl,rfl⟩:=he;rw[Nhv hx]at hv;simp only[execOp,hop];exact Noe hs hb hv key rfl hk
   ·cases he
  ·cases hm
 case binOp op t x y t2 =>
  unfold Nk3 at hm;split at hm
  case h_3 heq =>
   simp only[Op.binOp.injEq]at heq;rename_i t0 x y t20;obtain⟨rfl,rfl,rfl,rfl,rfl⟩:=heq;split at hm
   ·split at hm
    ·rename_i u hu;split at hm
     ·rename_i hj;simp only[Option.bind_eq_bind,Option.bind_eq_some_iff,Sj]at hm;obtain⟨a,ha,c,hc,rfl⟩:=hm;have hv:=hρ _ _ ha;have hw:=hρ _ _ hc;simp only[Nap]at he;split at he
      ·rename_i k1 o1 k2 o2 h1 h2;split at he
       ·rename_i hcond;obtain⟨rfl,rfl⟩:=hcond;simp only[Sj,Pj]at he;obtain⟨rfl,rfl⟩:=he;rw[h1]at hv;rw[h2]at hw;obtain⟨j,hj⟩:=Option.isSome_iff_exists.1 hj;simp only[execOp,hop];have:=NpJ (x:=.tmp x) (y:=.tmp y) (N:=fun k=>k=key) hs hu hj hv hw;simpa using this
       ·cases he
      ·cases he
     ·cases hm
    ·cases hm
   ·cases hm
  all_goals first|(rename_i heq;cases heq;done)|cases hm
 case convert src dst x =>
  simp only[Nk3]at hm;split at hm
  ·split at hm
   ·rename_i t h1 h2;split at hm
    ·rename_i n hn;split at hm
     ·cases hm
     ·rename_i h0;simp only[Option.bind_eq_bind,Option.bind_eq_some_iff,Sj]at hm;obtain⟨a,ha,rfl⟩:=hm;have hv:=hρ _ _ ha;simp only[execOp,hop];obtain⟨k,T,hx,hg,rfl,rfl⟩:∃ k T,ρ a=.ptr k 0∧st.get k=some (.bld T)∧r=.ptr k 0∧st'=st:=by
       simp only[Nap]at he;split at he<;>first|(rename_i hcv hx;cases hcv;done)|(rename_i hcv;cases hcv;done)|(cases he;done)|skip
       rename_i hx;split at he<;>first|(cases he;done)|skip
       rename_i hg;simp only[Sj,Pj]at he;exact⟨_,_,hx,hg,he.1.symm,he.2.symm⟩
      rw[hx]at hv;exact Nry hs h1 h2 hn h0 hv hg
    ·cases hm
   ·rename_i u h1 h2;split at hm
    ·rename_i hj;simp only[Option.bind_eq_bind,Option.bind_eq_some_iff,Sj]at hm;obtain⟨a,ha,rfl⟩:=hm;have hv:=hρ _ _ ha;simp only[execOp,hop];obtain⟨k,T,hx,hg,hT,rfl,rfl⟩:∃ k T,ρ a=.ptr k 0∧st.get k=some (.bld T)∧T∈Nn3 P u∧r=.ptr k 0∧st'=st:=by
      simp only[Nap]at he;split at he<;>first|(rename_i hcv hx;cases hcv;done)|(rename_i hcv;cases hcv;done)|(cases he;done)|skip
      rename_i hcv hx;simp only[Cv.down.injEq]at hcv;subst hcv;split at he<;>first|(cases he;done)|skip
      rename_i hg;split at he<;>first|(cases he;done)|skip
      rename_i hT;simp only[Sj,Pj]at he;exact⟨_,_,hx,hg,hT,he.1.symm,he.2.symm⟩
     rw[hx]at hv;exact Noh hs h1 h2 hj hv hg hT
    ·cases hm
   ·cases hm
  ·cases hm
 case call c =>
  simp only[Nk3]at hm;split at hm
  ·split at hm
   ·rename_i f hca;split at hm
    ·rename_i hne;split at hm
     ·rename_i x har;simp only[Option.bind_eq_bind,Option.bind_eq_some_iff,Sj]at hm;obtain⟨a,ha,rfl⟩:=hm;simp only[Nap,Sj,Pj]at he;obtain⟨rfl,rfl⟩:=he;have hv:=hρ _ _ ha;have har':c.args=#[x]:=(by apply Array.ext';simpa using har);unfold Nj3 at hne;split at hne
      ·rename_i fn hfn;simp only[Bool.and_eq_true,beq_iff_eq]at hne;obtain⟨⟨hb,hnm⟩,hor⟩:=hne;have h1:Extern.findNext fn=none:=by
        show(((Extern.allNextRows.lookup fn.name).map (· fn.params fn.resultTypes)) <|> ((Extern.allNextRows.lookup fn.origin).map (· fn.params fn.resultTypes)))=none;rw[hnm,hor,NpE,NmO];rfl
       have h2:Extern.find fn=some Extern.AbiNoEscape.same:=by
        have:=NpF fn.targs fn.params fn.resultTypes;unfold Extern.find;simp only[hnm,this];rfl
       have hr:=run_callFunc_extern (P:=P) hfn (by rw[hnm];rfl) hb h1 h2 #[ρc x] w;have hex:execOp ρc o=callFunc f #[ρc x]:=by
        simp[execOp,hop,resolve,hca,har',hfn0,Deferred.ofValue,invoke]
       rw[Lib.run_noEscape]at hr;exact OpOK.same hs (by rw[hex,hr];rfl) hv
      ·cases hne
     ·cases hm
    ·split at hm
     ·rename_i e x hmz har;simp only[Option.bind_eq_bind,Option.bind_eq_some_iff,Sj]at hm;obtain⟨a,ha,rfl⟩:=hm;have hv:=hρ _ _ ha;have har':c.args=#[x]:=(by apply Array.ext';simpa using har);have hex:execOp ρc o=callFunc f #[ρc x]:=by
       simp[execOp,hop,resolve,hca,har',hfn0,Deferred.ofValue,invoke]
      rw[hex];unfold NmL at hmz;split at hmz
      ·rename_i fn hfn;split at hmz
       ·rename_i hcond;simp only[Bool.and_eq_true,beq_iff_eq]at hcond;obtain⟨⟨hb,hnm⟩,hor⟩:=hcond;split at hmz
        ·rename_i t hrt;split at hmz
         ·rename_i e2 hu';split at hmz
          ·simp only[Sj]at hmz;subst hmz;simp only[Nap]at he;split at he
           ·rename_i n hx;split at he
            ·rename_i hn;simp only[Sj,Pj]at he;obtain⟨rfl,rfl⟩:=he;rw[hx]at hv;exact Nol hs hfn hnm hor hb (by apply Array.ext';simpa using hrt) (NcC hu') hv hn.1 hn.2 key rfl hk
            ·cases he
           ·cases he
          ·cases hmz
         ·cases hmz
        ·cases hmz
       ·cases hmz
      ·cases hmz
     ·cases hm
   ·rename_i hca;split at hm
    ·rename_i t x hat har;have hat':c.argTypes=#[t]:=(by apply Array.ext';simpa using hat);have har':c.args=#[x]:=(by apply Array.ext';simpa using har);have hex:execOp ρc o=(do pure (.value (←Builtin.cap_ #[t] o.type #[ρc x]))):=by
      simp[execOp,hop,resolve,hca,hat',har',invoke,builtin]
     rw[hex];split at hm
     ·rename_i e hu;simp only[Option.bind_eq_bind,Option.bind_eq_some_iff,Sj]at hm;obtain⟨a,ha,rfl⟩:=hm;have hv:=hρ _ _ ha;simp only[Nap]at he;split at he
      ·rename_i hx;simp only[Sj,Pj]at he;obtain⟨rfl,rfl⟩:=he;rw[hx]at hv;exact Nof hs hu hv
      ·cases he
     ·cases hm
    ·cases hm
   ·rename_i hca;split at hm
    ·rename_i t u d x hat har;have hat':c.argTypes=#[t,u]:=(by apply Array.ext';simpa using hat);have har':c.args=#[d,x]:=(by apply Array.ext';simpa using har);have hex:execOp ρc o=(do pure (.value (←Builtin.copy_ #[t,u] o.type #[ρc d,ρc x]))):=by
      simp[execOp,hop,resolve,hca,hat',har',invoke,builtin]
     rw[hex];split at hm
     ·rename_i e e' h1 h2;split at hm
      ·rename_i n hn;simp only[Option.bind_eq_bind,Option.bind_eq_some_iff,Sj]at hm;obtain⟨a,ha,b,hb,rfl⟩:=hm;have hv:=hρ _ _ ha;have hw:=hρ _ _ hb;simp only[Nap]at he;split at he
       ·rename_i k z off m hx hy;simp only[Sj,Pj]at he;obtain⟨rfl,rfl⟩:=he;rw[hx]at hv;rw[hy]at hw;exact Nl6 hs (NcC h1) (NcC h2) hn hv hw
       ·cases he
      ·cases hm
     ·cases hm
    ·cases hm
   ·rename_i hca;split at hm
    ·rename_i t u s x hat har;have hat':c.argTypes=#[t,u]:=(by apply Array.ext';simpa using hat);have har':c.args=#[s,x]:=(by apply Array.ext';simpa using har);have hex:execOp ρc o=(do pure (.value (←Builtin.append_ #[t,u] o.type #[ρc s,ρc x]))):=by
      simp[execOp,hop,resolve,hca,hat',har',invoke,builtin]
     rw[hex];split at hm
     ·rename_i e hu';have hu:=NcC hu';split at hm
      ·rename_i z he8 hz hn hby;split at hm
       ·rename_i e2 hu2;simp only[Option.bind_eq_bind,Option.bind_eq_some_iff,Sj]at hm;obtain⟨a,ha,b,hb,rfl⟩:=hm;simp only[Nap]at he;split at he
        ·rename_i q cs hc;split at he
         ·rename_i l hl;obtain⟨h1,h2⟩:=Ngu hl;obtain⟨nv,g1,g2,g3⟩:=NmV hs hu2 (hρ _ _ hb) hc h1;have:=Ndq hl g1;subst this;have hq:q=l.length:=(by omega);subst hq;exact Nkq hs hu hn hby hz g3 (hρ _ _ ha) key rfl hk he
         ·cases he
        ·cases he
       ·rename_i hu2;simp only[Option.bind_eq_bind,Option.bind_eq_some_iff,Sj]at hm;obtain⟨a,ha,b,hb,rfl⟩:=hm;simp only[Nap]at he;split at he
        ·rename_i l hx;have hv:=hρ _ _ hb;rw[hx]at hv;generalize ρc x=vx at hv ⊢;cases hv;have hsz:(⟨l.toArray⟩:ByteArray).size=l.length:=(by simp[ByteArray.size]);have hbc:byteCells ⟨l.toArray⟩=NaP l:=(by simp[byteCells,NaP]);have h3:=Src.ofString (P:=P) w hu2 ⟨l.toArray⟩;rw[hsz,hbc]at h3;exact Nkq hs hu hn hby hz h3 (hρ _ _ ha) key rfl hk he
        ·cases he
       ·cases hm
      ·cases hm
     ·cases hm
    ·cases hm
   ·rename_i hca;split at hm
    ·rename_i x har;have har':c.args=#[x]:=(by apply Array.ext';simpa using har);have hex:execOp ρc o=(do pure (.value (←Builtin.unsafeSliceData_ c.argTypes o.type #[ρc x]))):=by
      simp[execOp,hop,resolve,hca,har',invoke,builtin]
     rw[hex];simp only[Option.bind_eq_bind,Option.bind_eq_some_iff,Sj]at hm;obtain⟨a,ha,rfl⟩:=hm;have hv:=hρ _ _ ha;simp only[Nap]at he;split at he
     ·rename_i hx;simp only[Sj,Pj]at he;obtain⟨rfl,rfl⟩:=he;rw[hx]at hv;exact Nir hs hv rfl
     ·rename_i k n hx;simp only[Sj,Pj]at he;obtain⟨rfl,rfl⟩:=he;rw[hx]at hv;exact Nir hs hv rfl
     ·cases he
    ·cases hm
   ·rename_i hca;split at hm
    ·rename_i t u p n hat har;have hat':c.argTypes=#[t,u]:=(by apply Array.ext';simpa using hat);have har':c.args=#[p,n]:=(by apply Array.ext';simpa using har);have hex:execOp ρc o=(do pure (.value (←Builtin.unsafeString_ #[t,u] o.type #[ρc p,ρc n]))):=by
      simp[execOp,hop,resolve,hca,hat',har',invoke,builtin]
     rw[hex];split at hm
     ·rename_i e hu;split at hm
      ·rename_i hce;simp only[Option.bind_eq_bind,Option.bind_eq_some_iff,Sj]at hm;obtain⟨a,ha,b,hb,rfl⟩:=hm;have hv:=hρ _ _ ha;have hw:=hρ _ _ hb;simp only[Nap]at he;split at he
       ·rename_i q hx hy;split at he
        ·rename_i h0;subst h0;simp only[Sj,Pj]at he;obtain⟨rfl,rfl⟩:=he;rw[hx]at hv;rw[hy]at hw;exact Nmc hs hv hw
        ·cases he
       ·rename_i k q hx hy;split at he
        ·rename_i T' l hg;split at he
         ·rename_i hcond;obtain⟨rfl,rfl,h1,h2⟩:=hcond;simp only[Sj,Pj]at he;obtain⟨rfl,rfl⟩:=he;rw[hx]at hv;rw[hy]at hw;exact Non hs hu hce hv hw hg h1 h2
         ·cases he
        ·cases he
       ·cases he
      ·cases hm
     ·cases hm
    ·cases hm
   ·cases hm
  ·cases hm
 all_goals (simp only[Nk3]at hm;cases hm)
theorem NiX{modes:FuncId→Option Bool}{cfg:Cfg}{callE:CallE}{o:Oper}{m:MOp}(hm:cOp P V modes o.op=some m)(hpl:m.plain=true)(hs:Sim G st w base)(hρ:∀ x y,cArg V x=some y→VRel G (ρc x) (ρ y))(hfn0:∀ f,ρc (.func f)=.func (.func f) #[] #[]){key:Nat}(hk:G.B key=none)
 {r:PV}{st':St}(he:Nap cfg callE ρ st key m=some (r,st')):OpOK P base (fun k=>k=key) G st w (execOp ρc o) r st':=by
 unfold cOp at hm;split at hm
 ·rename_i m' hb;simp only[Sj]at hm;subst hm;exact NiO hb hs hρ hfn0 hk he
 ·exact Nhq hm hpl hs hρ hk he
end
def FC(F:Nat→Nat→Option Value)(vs:List Value)(ps:List PV):Prop:=vs.length=ps.length∧∀ (i:Nat) (v:Value) (p:PV),vs[i]? = some v→ps[i]? = some p→FRel F v p
theorem FC.mono{F F':Nat→Nat→Option Value}(hl:∀ b o u,F b o=some u→F' b o=some u){vs:List Value}{ps:List PV}(h:FC F vs ps):FC F' vs ps:=⟨h.1,fun i v p a b=>(h.2 i v p a b).mono hl⟩
theorem FC.toC{G:Ghost}{vs:List Value}{ps:List PV}(h:FC G.F vs ps):CRel G vs ps:=⟨h.1,fun i v p a b=>(h.2 i v p a b).toV⟩
theorem Nbn:∀ (ks:List Nat) (st:St) {k:Nat}{x:PObj},(NaI st ks).get k=some x→st.get k=some x∨∃ cs z,st.get k=some (.cells cs z)∧x=.cells cs true∧k∈ks
 |[],st,k,x,h=>.inl h
 |k0::ks,st,k,x,h=>by
   simp only[NaI,Ncy]at h;split at h
   ·rename_i cs z hg;rcases Nbn ks _ h with h1|⟨cs',z',h1,h2,h3⟩
    ·rcases St.get_put h1 with⟨rfl,e⟩|⟨hne,h1'⟩
     ·simp only[Sj]at e;exact .inr ⟨cs,z,hg,e.symm,List.mem_cons_self⟩
     ·exact .inl h1'
    ·rcases St.get_put h1 with⟨rfl,e⟩|⟨hne,h1'⟩
     ·simp only[Sj,PObj.cells.injEq]at e;obtain⟨rfl,rfl⟩:=e;exact .inr ⟨cs,z,hg,h2,List.mem_cons_self⟩
     ·exact .inr ⟨cs',z',h1',h2,List.mem_cons_of_mem _ h3⟩
   ·rcases Nbn ks _ h with h1|⟨cs',z',h1,h2,h3⟩
    ·exact .inl h1
    ·exact .inr ⟨cs',z',h1,h2,List.mem_cons_of_mem _ h3⟩
theorem NcQ:∀ (ks:List Nat) (st:St) {k:Nat}{cs:List PV},(NaI st ks).get k=some (.cells cs false)→st.get k=some (.cells cs false)∧k∉ks
 |[],st,k,cs,h=>⟨h,by simp⟩
 |k0::ks,st,k,cs,h=>by
   simp only[NaI,Ncy]at h;split at h
   ·rename_i cs0 z hg;obtain⟨h1,h2⟩:=NcQ ks _ h;rcases St.get_put h1 with⟨rfl,e⟩|⟨hne,h1'⟩
    ·simp at e
    ·exact⟨h1',by simp[h2];exact fun e=>hne e.symm⟩
   ·rename_i hg;obtain⟨h1,h2⟩:=NcQ ks _ h;exact⟨h1,by simp[h2];rintro rfl;exact hg cs false h1⟩
theorem NeT:∀ (ks:List Nat) (st:St),(NaI st ks).cnt=st.cnt
 |[],st=>rfl
 |k::ks,st=>by
   simp only[NaI];rw[NeT ks];unfold Ncy;split<;>rfl
section
variable {G:Ghost}{st:St}{w:World}{base:Nat}
theorem NeU(hs:Sim G st w base)(keys:List Nat):∃ G':Ghost,G.le G'∧G'.B=G.B∧Sim G' (NaI st keys) w base ∧
 (∀ b o u,G'.F b o=some u→G.F b o=some u∨∃ k size,k∈keys∧(st.get k).isSome∧G.B k=some (b,size)) ∧
 (∀ (f:Nat) (p p':PV) (v:Value),(∀ k∈keysP st f p,k∈keys)→VRel G v p→deep st f p=some p'→FRel G'.F v p'):=by
 classical
 obtain⟨G',hGF,hGB⟩:∃ G':Ghost,(∀ b o,G'.F b o=if ∃ k cs z size,k∈keys∧st.get k=some (.cells cs z)∧G.B k=some (b,size)∧o<cs.length then w.cell? ⟨b,o,none⟩else G.F b o)∧G'.B=G.B :=
  ⟨{ F:=fun b o=>if ∃ k cs z size,k∈keys∧st.get k=some (.cells cs z)∧G.B k=some (b,size)∧o<cs.length then w.cell? ⟨b,o,none⟩else G.F b o,B:=G.B },fun _ _=>rfl,rfl⟩
 have hF:∀ b o u,G'.F b o=some u→w.cell? ⟨b,o,none⟩=some u:=by
  intro b o u h;rw[hGF]at h;split at h
  ·exact h
  ·exact hs.frz b o u h
 have hle:G.le G':=by
  refine⟨fun b o u h=>?_,fun _ _ h=>by rw[hGB];exact h⟩;rw[hGF];split
  ·exact hs.frz b o u h
  ·exact h
 have hsome:∀ k,((NaI st keys).get k).isSome→(st.get k).isSome:=by
  intro k hk;obtain⟨x,hx⟩:=Option.isSome_iff_exists.1 hk;rcases Nbn keys st hx with h|⟨cs,z,h,_⟩<;>rw[h]<;>rfl
 refine⟨G',hle,hGB,?_,?_,?_⟩
 ·refine⟨hs.bas,hF,?_,?_,?_,?_,?_,?_⟩
  rotate_right 1
  ·intro k es blk size hg hB;rw[hGB]at hB;rcases Nbn keys st hg with h|⟨cs',z',h,e,_⟩
   ·obtain⟨obj,g1,g2⟩:=hs.mps k es blk size h hB;exact⟨obj,g1,g2.mono hle⟩
   ·subst e;obtain⟨obj,g1,_⟩:=hs.mps k _ blk size h hB;exact⟨obj,g1,trivial⟩
  ·intro k cs z blk size hg hB;rw[hGB]at hB;rcases Nbn keys st hg with h|⟨cs',z',h,e,_⟩
   ·obtain⟨cur,ty,m,g1,g2,g3,g4,g5⟩:=hs.cells k cs z blk size h hB;exact⟨cur,ty,m,g1,g2,g3,g4,g5.mono hle⟩
   ·simp only[PObj.cells.injEq]at e;obtain⟨rfl,rfl⟩:=e;obtain⟨cur,ty,m,g1,g2,g3,g4,g5⟩:=hs.cells k _ z' blk size h hB;exact⟨cur,ty,m,g1,g2,g3,g4,g5.mono hle⟩
  ·intro k cs blk size hg hB i hi;rw[hGB]at hB;rcases Nbn keys st hg with h|⟨cs',z',h,e,hk⟩
   ·obtain⟨u,hu⟩:=hs.frzd k cs blk size h hB i hi;exact⟨u,hle.F _ _ _ hu⟩
   ·simp only[PObj.cells.injEq]at e;obtain⟨rfl,_⟩:=e;obtain⟨cur,h1,h2,h3,h4⟩:=hs.get_cell h hB;refine⟨cur.getD i undef,?_⟩;rw[hGF,if_pos ⟨k,cs,z',size,hk,h,hB,hi⟩];exact(h4 i Zaa).1
  ·intro k x blk size hg ho hB o;rw[hGB]at hB;have hx:st.get k=some x∧∀ cs z,st.get k=some (.cells cs z)→k∉keys:=by
    cases x with
    |cells cs z =>
      have:z=false:=(by simpa[PObj.opn]using ho);subst this;obtain⟨h,hk⟩:=NcQ keys st hg;exact⟨h,fun _ _ _=>hk⟩
    |_ =>
      rcases Nbn keys st hg with h|⟨_,_,_,e,_⟩
      ·exact⟨h,fun cs z e=>by rw[h]at e;cases e⟩
      ·cases e
   obtain⟨h,hk⟩:=hx;rw[hGF,if_neg]
   ·exact hs.free k x blk size h ho hB o
   ·rintro⟨k2,cs2,z2,s2,hk2,h2,hB2,_⟩;have:=hs.inj k k2 (blk,size) (blk,s2) (by rw[h];rfl) (by rw[h2];rfl) hB hB2 rfl;subst this;exact hk _ _ h2 hk2
  ·intro k k' x x' hk hk';rw[hGB];exact hs.inj k k' x x' (hsome k hk) (hsome k' hk')
  ·intro k x hk;rw[hGB];exact hs.low k x (hsome k hk)
 ·intro b o u h;by_cases hc:∃ k cs z size,k∈keys∧st.get k=some (.cells cs z)∧G.B k=some (b,size)∧o<cs.length
  ·obtain⟨k,cs,z,size,h1,h2,h3,_⟩:=hc;exact .inr ⟨k,size,h1,by rw[h2];rfl,h3⟩
  ·left;rw[hGF,if_neg hc]at h;exact h
 ·intro f
  induction f with
  |zero=>intro p p' v _ _ h;simp[deep]at h
  |succ f ih =>
    intro p p' v hk hv hd;have hlist:∀ (vs:List Value) (ps ps':List PV),CRel G vs ps→(∀ q∈ps,∀ k∈keysP st f q,k∈keys)→mapO (deep st f) ps=some ps'→FC G'.F vs ps':=by
     intro vs ps ps' hc hkk hm;obtain⟨h1,h2⟩:=NaZ hm;refine⟨by rw[h1];exact hc.1,fun i u q hu hq=>?_⟩;have hi:i<ps.length:=(by rw[←h1];exact(List.getElem?_eq_some_iff.1 hq).1);exact ih ps[i] q u (hkk _ (List.getElem_mem _)) (hc.2 i u ps[i] hu (List.getElem?_eq_getElem hi)) (h2 i ps[i] q (List.getElem?_eq_getElem hi) hq)
    cases hv with
    |und v=>simp[deep]at hd;subst hd;exact .und v
    |i k n=>simp[deep]at hd;subst hd;exact .i k n
    |b x=>simp[deep]at hd;subst hd;exact .b x
    |s l=>simp[deep]at hd;subst hd;exact .s l
    |nsl=>simp[deep]at hd;subst hd;exact .nsl
    |fnull a cap hm=>simp[deep]at hd;subst hd;exact .fnull a cap hm
    |fsl b o n cap ps g hc hm hFF h=>simp[deep]at hd;subst hd;exact .fsl b o n cap ps g hc hm (fun i hi=>hle.F _ _ _ (hFF i hi)) (fun i q hq=>(h i q hq).mono hle.F)
    |nptr=>simp[deep]at hd;subst hd;exact .nptr
    |nfn=>simp[deep]at hd;subst hd;exact .nfn
    |nmp=>simp[deep]at hd;subst hd;exact .nmp
    |ptr=>simp[deep]at hd
    |fptr=>simp[deep]at hd
    |fn=>simp[deep]at hd
    |bfn=>simp[deep]at hd
    |mp=>simp[deep]at hd
    |agg cs ps hl h =>
      simp only[deep,Option.map_eq_some_iff]at hd;obtain⟨ps',hm,rfl⟩:=hd;have:=hlist cs.toList ps ps' ⟨by simpa using hl,fun i v p hv hp=>h i v p (by simpa using hv) hp⟩ (fun q hq k hk'=>hk k (by simp only[keysP];exact List.mem_flatMap.2 ⟨q,hq,hk'⟩)) hm;exact .agg cs ps' (by simpa using this.1) fun i v p hv hp=>this.2 i v p (by simpa using hv) hp
    |tup cs ps hl h =>
      simp only[deep,Option.map_eq_some_iff]at hd;obtain⟨ps',hm,rfl⟩:=hd;have:=hlist cs.toList ps ps' ⟨by simpa using hl,fun i v p hv hp=>h i v p (by simpa using hv) hp⟩ (fun q hq k hk'=>hk k (by simp only[keysP];exact List.mem_flatMap.2 ⟨q,hq,hk'⟩)) hm;exact .tup cs ps' (by simpa using this.1) fun i v p hv hp=>this.2 i v p (by simpa using hv) hp
    |rsl k sz off n blk size cap hB hc hm hz hz0 =>
      simp only[deep]at hd;split at hd
      ·rename_i cs z hg;split at hd
       ·rename_i l hl;simp only[Option.map_eq_some_iff]at hd;obtain⟨l',hm',rfl⟩:=hd;unfold cut? at hl;split at hl
        ·rename_i hfit;simp only[Sj]at hl;subst hl;obtain⟨cur,h1,h2,h3,h4⟩:=hs.get_cell hg hB;have hkk:∀ q∈cs,∀ k'∈keysP st f q,k'∈keys:=fun q hq k' hk'=>hk k' (by simp only[keysP,hg];exact List.mem_cons_of_mem _ (List.mem_flatMap.2 ⟨q,hq,hk'⟩));have hkm:k∈keys:=hk k (by simp only[keysP];exact List.mem_cons_self);have hfc:=hlist (((cur.take cs.length).drop off).take (n * sz)) ((cs.drop off).take (n * sz)) l' ((h3.drop off).take _) (fun q hq=>hkk q (List.mem_of_mem_drop (List.mem_of_mem_take hq))) hm';have hll:l'.length=n * sz:=(by rw[←hfc.1];simp;omega);refine .fsl blk off n cap l' (fun i=>cur.getD (off+i) undef) hc hm ?_ ?_
         ·intro i hi;rw[hGF,if_pos ⟨k,cs,z,size,hkm,hg,hB,by omega⟩];exact(h4 (off+i) Zaa).1
         ·intro i q hq;have hi:i<l'.length:=(List.getElem?_eq_some_iff.1 hq).1;refine hfc.2 i (cur.getD (off+i) undef) q ?_ hq;rw[List.getElem?_take,if_pos Zaa,List.getElem?_drop,List.getElem?_take,if_pos Zaa];have:off+i<cur.length:=(by omega);simp[List.getD,this]
        ·simp at hl
       ·simp at hd
      ·simp at hd
theorem NcM{G':Ghost}{keys:List Nat}(hd:∀ (f:Nat) (p p':PV) (v:Value),(∀ k∈keysP st f p,k∈keys)→VRel G v p→deep st f p=some p'→FRel G'.F v p'){vs:List Value}{ps ps':List PV}(hc:CRel G vs ps)(hk:∀ k∈keysL st ps,k∈keys)(hm:Nbk st ps=some ps'):FC G'.F vs ps':=by
 obtain⟨h1,h2⟩:=NaZ hm;refine⟨by rw[h1];exact hc.1,fun i u q hu hq=>?_⟩;have hi:i<ps.length:=by rw[←h1];exact(List.getElem?_eq_some_iff.1 hq).1
 exact hd Ndt ps[i] q u (fun k hk'=>hk k (List.mem_flatMap.2 ⟨ps[i],List.getElem_mem _,hk'⟩)) (hc.2 i u ps[i] hu (List.getElem?_eq_getElem hi)) (h2 i ps[i] q (List.getElem?_eq_getElem hi) hq)
end
section
variable {st:St}{w:World}{base k sz n:Nat}{G:Ghost}{cs:List PV}{v:Value}
def NhP(F:Nat→Nat→Option Value)(w:World)(base:Nat)(v:Value)(blk sz n:Nat)(cs:List PV):Prop :=
 ∃ (size cap:Nat) (cur:Array Value) (ty:TypeId) (m:Nat×Nat),v=.slice (some ⟨blk,0,none⟩) n cap∧n≤cap∧cap≤maxLen∧cap * sz≤size∧0<sz∧w.heap[blk]? = some (.cells cur ty m)∧NoJ m cur.size∧cur.size=size∧cs.length≤size ∧
   FC F (cur.toList.take cs.length) cs∧(∀ o,F blk o=none)∧base≤blk
def ARel(F:Nat→Nat→Option Value)(w:World)(base:Nat)(vs:List Value)(args:List PV)(g:Option Nat):Prop :=
 match args with
 |.osl sz n cs::rest=>∃ v vs' blk,vs=v::vs'∧NhP F w base v blk sz n cs∧FC F vs' rest∧g=some blk
 |l=>FC F vs l∧g=none
def RRel1(F:Nat→Nat→Option Value)(w:World)(base:Nat)(A:Nat→Prop)(v:Value)(p:PV):Prop :=
 match p with
 |.osl sz n cs=>∃ blk,A blk∧NhP F w base v blk sz n cs
 |p=>FRel F v p
def NoK(F:Nat→Nat→Option Value)(w:World)(base:Nat)(A:Nat→Prop)(v:Value)(r:PV):Prop :=
 match r with
 |.tup ps=>∃ us:Array Value,v=.tuple us∧us.size=ps.length∧∀ (i:Nat) (u:Value) (p:PV),us[i]? = some u→ps[i]? = some p→RRel1 F w base A u p
 |p=>RRel1 F w base A v p
def Nbc(P:Program)(Gl:Gmap)(f:FuncId)(g:List PV→Option PV):Prop :=
 ∀ args r,g args=some r→∀ (F:Nat→Nat→Option Value) (w:World) (base:Nat) (vs:List Value) (gv:Option Nat),(∀ b o u,F b o=some u→w.cell? ⟨b,o,none⟩=some u)→(∀ b o u,Gl b o=some u→F b o=some u)→base≤w.heap.size→ARel F w base vs args gv →
   Calls P f vs.toArray w fun e w'=>∃ v F',e=.returned v∧(∀ b o u,F b o=some u→F' b o=some u)∧(∀ b o u,F' b o=some u→w'.cell? ⟨b,o,none⟩=some u)∧w'.os=w.os∧w'.tape=w.tape∧w'.output=w.output∧w.heap.size≤w'.heap.size ∧
    (∀ j,j<w.heap.size→some j≠gv→w'.heap[j]? = w.heap[j]?)∧(∀ b o u,F' b o=some u→F b o=some u∨w.heap.size≤b∨some b=gv)∧NoK F' w' base (fun b=>w.heap.size≤b∨some b=gv) v r
def NaV(P:Program)(Gl:Gmap)(callE:CallE):Prop :=
 ∀ f args st r st',callE f args st=some (r,st')→Ncz P f=true∧st.cnt≤st'.cnt∧∀ G w base vs,Sim G st w base→Nhf Gl G st→CRel G vs args→(∀ k,st.cnt≤k→G.B k=none) →
   Calls P f vs.toArray w fun e w'=>∃ v G',e=.returned v∧VRel G' v r∧Step base (fun k=>st.cnt≤k∧k<st'.cnt) G st w G' st' w'
theorem Nfj{v:PV}(h:Nfi? st v=some (k,sz,n,cs)):v=.rsl k sz 0 n∧st.get k=some (.cells cs false)∧cs.length=n * sz∧0<sz:=by
 unfold Nfi? at h;split at h
 ·split at h
  ·rename_i hg;split at h
   ·rename_i hc;simp only[Sj,Pj]at h;obtain⟨rfl,rfl,rfl,rfl⟩:=h;obtain⟨rfl,h1,h2⟩:=hc;exact⟨rfl,hg,h1,h2⟩
   ·simp at h
  ·simp at h
 ·simp at h
theorem NcE{st:St}:∀ {vs:List PV}{i k sz n:Nat}{cs:List PV},NbF st vs=some (i,k,sz,n,cs)→vs[i]? = some (.rsl k sz 0 n)∧st.get k=some (.cells cs false)∧cs.length=n * sz∧0<sz
 |[],i,k,sz,n,cs,h=>by simp[NbF]at h
 |v::r,i,k,sz,n,cs,h=>by
   simp only[NbF]at h;split at h
   ·rename_i x hx;simp only[Sj,Pj]at h;obtain⟨rfl,rfl⟩:=h;obtain⟨rfl,h1,h2,h3⟩:=Nfj hx;exact⟨rfl,h1,h2,h3⟩
   ·simp only[Option.map_eq_some_iff,Pj]at h;obtain⟨y,hy,rfl,hy2⟩:=h;obtain⟨j,z⟩:=y;simp only[]at hy2;subst hy2;obtain⟨h1,h2⟩:=NcE hy;exact⟨by simpa using h1,h2⟩
theorem NhF(hs:Sim G st w base){l:List PV}(hg:st.get k=some (.cells cs false))(hl:cs.length=n * sz)(hv:VRel G v (.rsl k sz 0 n)){keys:List Nat}{G':Ghost}(hle:G.le G')(hB:G'.B=G.B)(hs':Sim G' (NaI st keys) w base)
 (hd:∀ (f:Nat) (p p':PV) (v:Value),(∀ k∈keysP st f p,k∈keys)→VRel G v p→deep st f p=some p'→FRel G'.F v p') (hk:∀ j∈keysL st cs,j∈keys) (hnk:k∉keys) (hm:Nbk st cs=some l) :
 ∃ blk size,G.B k=some (blk,size)∧NhP G'.F w base v blk sz n l:=by
 cases hv with
 |rsl _ _ _ _ blk size cap hBk hc hmx hz hz0 =>
   obtain⟨cur,ty,m,g1,g2,g3,g4,g5⟩:=hs.cells k cs false blk size hg hBk;have hfc:=NcM hd g5 hk hm;have hll:l.length=cs.length:=(by rw[←hfc.1];simp;omega);refine⟨blk,size,hBk,size,cap,cur,ty,m,rfl,hc,hmx,by omega,hz0,g1,g2,g3,by omega,by rw[hll];exact hfc,?_,(hs.low k _ (by rw[hg];rfl) hBk).1⟩;intro o;have hg':(NaI st keys).get k=some (.cells cs false):=by
    have hkeep:∀ (ks:List Nat) (s:St),s.get k=some (.cells cs false)→k∉ks→(NaI s ks).get k=some (.cells cs false):=by
     intro ks
     induction ks with
     |nil=>intro s h _;exact h
     |cons j ks ih =>
       intro s h hn;simp only[NaI];refine ih _ ?_ (fun h'=>hn (List.mem_cons_of_mem _ h'));unfold Ncy;split
       ·rw[Yae (by rintro rfl;exact hn List.mem_cons_self)];exact h
       ·exact h
    exact hkeep keys st hg hnk
   exact hs'.freeC k cs blk size hg' (by rw[hB];exact hBk) o
theorem Nls{f:Nat}{p:PV}{ps:List PV}(h:deep st f p=some (.tup ps)):∃ vs,p=.tup vs:=by
 cases f with
 |zero=>simp[deep]at h
 |succ f =>
   cases p<;>simp only[deep]at h<;>first|exact⟨_,rfl⟩|(simp at h;done)|skip
   split at h
   ·split at h<;>simp at h
   ·simp at h
theorem Nc3{P:Program}{Gl:Gmap}{callE:CallE}(hc:NaV P Gl callE)(f:FuncId):Nbc P Gl f (Ndr callE f):=by
 intro args r hr F w base vs gv hF hGl hbase hA;unfold Ndr at hr;split at hr
 ·rename_i r0 st' hcall;obtain⟨_,_,hc'⟩:=hc f _ _ _ _ hcall
  -- what is handed in
  obtain⟨B0,hs0,hfull,hcr,hB0,hgv⟩:∃ B0:Nat→Option (Nat×Nat),Sim ⟨F,B0⟩ (NaC args).2 w base∧Nhf Gl ⟨F,B0⟩ (NaC args).2∧CRel ⟨F,B0⟩ vs (NaC args).1∧(∀ k,(NaC args).2.cnt≤k→B0 k=none) ∧
   (∀ k x,((NaC args).2.get k).isSome→B0 k=some x→some x.1=gv):=by
   have hempty:∀ (l:List PV),FC F vs l→∃ B0:Nat→Option (Nat×Nat),Sim ⟨F,B0⟩ { sto:=.leaf,cnt:=1 } w base∧Nhf Gl ⟨F,B0⟩ { sto:=.leaf,cnt:=1 }∧CRel ⟨F,B0⟩ vs l∧(∀ k,1≤k→B0 k=none)∧(∀ k x,(St.get { sto:=.leaf,cnt:=1 } k).isSome→B0 k=some x→some x.1=gv):=by
    intro l hfc;have hno:∀ k,St.get { sto:=.leaf,cnt:=1 } k=none:=(by intro k;rfl);refine⟨fun _=>none,⟨hbase,hF,?_,?_,?_,?_,?_,?_⟩,⟨hGl,fun k h=>by rw[hno]at h;simp at h⟩,hfc.toC,fun _ _=>rfl,fun k x h=>by rw[hno]at h;simp at h⟩
    all_goals (intros;simp_all)
   cases args with
   |nil=>simp only[ARel]at hA;exact hempty [] hA.1
   |cons a rest =>
     by_cases ho:∃ sz n cs,a=.osl sz n cs
     ·obtain⟨sz,n,cs,rfl⟩:=ho;simp only[ARel]at hA;obtain⟨v,vs',blk,rfl,⟨size,cap,cur,ty,m,rfl,h1,h2,h3,h4,h5,h6,h7,h8,h9,h10,h11⟩,hrest,rfl⟩:=hA;have hget:∀ k x,(NaC (.osl sz n cs::rest)).2.get k=some x→k=0∧x=.cells cs false:=by
       intro k x hx;by_cases h0:(0:Nat)=k
       ·subst h0;have e:(NaC (.osl sz n cs::rest)).2.get 0=some (PObj.cells cs false):=Yaf { sto:=.leaf,cnt:=1 } 0 _;rw[e]at hx;simp at hx;exact⟨rfl,hx.symm⟩
       ·have h':(({ sto:=.leaf,cnt:=1 }:St).put 0 (some (PObj.cells cs false))).get k=some x:=hx;rw[Yae h0]at h';have:({ sto:=.leaf,cnt:=1 }:St).get k=none:=rfl;rw[this]at h';simp at h'
      refine⟨fun k=>if k=0 then some (blk,size)else none,⟨hbase,hF,?_,?_,?_,?_,?_,fun k es b s hg hB=>by
       obtain⟨rfl,e⟩:=hget k _ hg;subst e;simp only[if_pos,Sj,Pj]at hB;obtain⟨rfl,rfl⟩:=hB;exact⟨_,h5,trivial⟩⟩,⟨hGl,fun k hk=>by
       obtain⟨y,hy⟩:=Option.isSome_iff_exists.1 hk;obtain⟨rfl,_⟩:=hget k y hy;simp⟩,?_,?_,?_⟩
      ·intro k cs' z b s hg hB;obtain⟨rfl,e⟩:=hget k _ hg;simp only[PObj.cells.injEq]at e;obtain⟨rfl,rfl⟩:=e;simp only[if_pos,Sj,Pj]at hB;obtain⟨rfl,rfl⟩:=hB;exact⟨cur,ty,m,h5,h6,h7,h8,h9.toC⟩
      ·intro k cs' b s hg hB;obtain⟨rfl,e⟩:=hget k _ hg;simp at e
      ·intro k cs' b s hg _ hB;obtain⟨rfl,e⟩:=hget k _ hg;simp only[if_pos,Sj,Pj]at hB;obtain⟨rfl,rfl⟩:=hB;exact h10
      ·intro k k' x x' hk hk' _ _ _;obtain⟨y,hy⟩:=Option.isSome_iff_exists.1 hk;obtain⟨y',hy'⟩:=Option.isSome_iff_exists.1 hk';rw[(hget k y hy).1,(hget k' y' hy').1]
      ·intro k x hk hB;obtain⟨y,hy⟩:=Option.isSome_iff_exists.1 hk;obtain⟨rfl,_⟩:=hget k y hy;simp only[if_pos,Sj]at hB;subst hB;exact⟨h11,(Array.getElem?_eq_some_iff.1 h5).1⟩
      ·exact CRel.cons (.rsl 0 sz 0 n blk size cap Zaf h1 h2 Zaa h4) hrest.toC
      ·intro k hk;have:1≤k:=hk;simp;omega
      ·intro k x hk hB;obtain⟨y,hy⟩:=Option.isSome_iff_exists.1 hk;obtain⟨rfl,_⟩:=hget k y hy;simp only[if_pos,Sj]at hB;subst hB;rfl
     ·have hA':FC F vs (a::rest)∧gv=none:=by
       cases a<;>first|exact hA|(exfalso;exact ho ⟨_,_,_,rfl⟩)
      have ho':NaC (a::rest)=(a::rest,{ sto:=.leaf,cnt:=1 }):=by
       cases a<;>first|rfl|(exfalso;exact ho ⟨_,_,_,rfl⟩)
      rw[ho'];exact hempty _ hA'.1
  refine(hc' ⟨F,B0⟩ w base vs hs0 hfull hcr hB0).mono ?_;rintro e w' ⟨v,G',rfl,hv,hst⟩;have hown:∀ k x,(st'.get k).isSome→G'.B k=some x→w.heap.size≤x.1∨some x.1=gv:=by
   intro k x hk hB;rcases hst.own k x hk hB with h|⟨k0,x0,a,b,c⟩
   ·exact .inl h
   ·right;rw[←c];exact hgv k0 x0 a b
  have hkept:∀ j,j<w.heap.size→some j≠gv→w'.heap[j]? = w.heap[j]?:=fun j hj hne=>hst.kept j hj (fun k x a b c=>hne (by rw[←c];exact hgv k x a b));have fin:∀ (keys:List Nat) (r':PV),(∀ (G2:Ghost),G'.le G2→G2.B=G'.B→Sim G2 (NaI st' keys) w' base→(∀ (f:Nat) (p p':PV) (v:Value),(∀ k∈keysP st' f p,k∈keys)→VRel G' v p→deep st' f p=some p'→FRel G2.F v p')→NoK G2.F w' base (fun b=>w.heap.size≤b∨some b=gv) v r') →
   ∃ (v1:Value) (F':Nat→Nat→Option Value),Ending.returned v=.returned v1∧(∀ b o u,F b o=some u→F' b o=some u)∧(∀ b o u,F' b o=some u→w'.cell? ⟨b,o,none⟩=some u)∧w'.os=w.os∧w'.tape=w.tape∧w'.output=w.output∧w.heap.size≤w'.heap.size ∧
   (∀ j,j<w.heap.size→some j≠gv→w'.heap[j]? = w.heap[j]?)∧(∀ b o u,F' b o=some u→F b o=some u∨w.heap.size≤b∨some b=gv)∧NoK F' w' base (fun b=>w.heap.size≤b∨some b=gv) v1 r':=by
   intro keys r' h;obtain⟨G2,h1,h2,h3,h4,h5⟩:=NeU hst.sim keys;refine⟨v,G2.F,rfl,fun b o u hu=>h1.F _ _ _ (hst.le.F b o u hu),h3.frz,hst.os,hst.tape,hst.output,hst.size,hkept,?_,h G2 h1 h2 h3 h5⟩;intro b o u hu;rcases h4 b o u hu with h6|⟨k,size,_,h7,h8⟩
   ·rcases hst.fnew b o u h6 with h9|h9|⟨k0,x0,a,b',c⟩
    ·exact .inl h9
    ·exact .inr (.inl h9)
    ·exact .inr (.inr (by rw[←c];exact hgv k0 x0 a b'))
   ·exact .inr (hown k (b,size) h7 h8)
  have one:∀ {F':Nat→Nat→Option Value}{u:Value}{p:PV}{A:Nat→Prop},FRel F' u p→RRel1 F' w' base A u p:=by
   intro F' u p A h;cases h<;>(simp only[RRel1];constructor<;>assumption)
  unfold NaU at hr;split at hr
  ·rename_i vs1;obtain⟨us0,rfl,hus⟩:=hv.tup_inv;split at hr
   ·rename_i i k sz n cs hfw;obtain⟨g1,g2,g3,g4⟩:=NcE hfw;split at hr
    ·simp at hr
    ·rename_i hnk;split at hr
     ·rename_i l us hl hu;simp only[Sj]at hr;subst hr;refine fin (keysL st' cs++keysL st' (vs1.set i .und)) _ ?_;intro G2 h1 h2 h3 h5;have hset:CRel G' us0.toList (vs1.set i .und):=by
       refine⟨by simp[hus.1],fun j u p hu' hp=>?_⟩;by_cases hj:i=j
       ·subst hj;rw[List.getElem?_set_self (by have:=(List.getElem?_eq_some_iff.1 hp).1;simpa using this)]at hp;simp only[Sj]at hp;subst hp;exact .und u
       ·rw[List.getElem?_set_ne hj]at hp;exact hus.2 j u p hu' hp
      have hfc:=NcM h5 hset (fun k' hk'=>List.mem_append_right _ hk') hu;have hi:i<vs1.length:=(List.getElem?_eq_some_iff.1 g1).1;have hi0:i<us0.toList.length:=(by rw[hus.1];exact hi);obtain⟨blk,size,hBk,ho⟩:=NhF hst.sim g2 g3 (hus.2 i us0.toList[i] _ (List.getElem?_eq_getElem hi0) g1) h1 h2 h3 h5 (fun k' hk'=>List.mem_append_left _ hk') (by simpa using hnk) hl;refine⟨us0,rfl,by simp[←hfc.1],fun j u p hu' hp=>?_⟩;have hu'':us0.toList[j]? = some u:=(by simpa using hu');by_cases hj:i=j
      ·subst hj;rw[List.getElem?_set_self (by have:=(List.getElem?_eq_some_iff.1 hp).1;simpa using this)]at hp;simp only[Sj]at hp;subst hp;rw[List.getElem?_eq_getElem hi0]at hu'';simp only[Sj]at hu'';subst hu'';exact⟨blk,hown k (blk,size) (by rw[g2];rfl) hBk,ho⟩
      ·rw[List.getElem?_set_ne hj]at hp;exact one (hfc.2 j u p hu'' hp)
     ·simp at hr
   ·simp only[Option.map_eq_some_iff]at hr;obtain⟨us,hu,rfl⟩:=hr;refine fin (keysL st' vs1) _ ?_;intro G2 h1 h2 h3 h5;have hfc:=NcM h5 hus (fun k' hk'=>hk') hu;exact⟨us0,rfl,by simp[←hfc.1],fun j u p hu' hp=>one (hfc.2 j u p (by simpa using hu') hp)⟩
  ·rename_i hnt;split at hr
   ·rename_i k sz n cs hw;obtain⟨rfl,g2,g3,g4⟩:=Nfj hw;split at hr
    ·simp at hr
    ·rename_i hnk;simp only[Option.map_eq_some_iff]at hr;obtain⟨l,hl,rfl⟩:=hr;refine fin (keysL st' cs) _ ?_;intro G2 h1 h2 h3 h5;obtain⟨blk,size,hBk,ho⟩:=NhF hst.sim g2 g3 hv h1 h2 h3 h5 (fun k' hk'=>hk') (by simpa using hnk) hl;exact⟨blk,hown k (blk,size) (by rw[g2];rfl) hBk,ho⟩
   ·refine fin (keysP st' Ndt r0) _ ?_;intro G2 h1 h2 h3 h5;have hf:=h5 Ndt r0 r v (fun k hk=>hk) hv hr;have h1':=one (A:=fun b=>w.heap.size≤b∨some b=gv) hf;cases hf<;>first|exact h1'|skip
    -- a tuple out of what is none
    rename_i cs ps hl hh;exfalso;obtain⟨vs,rfl⟩:=Nls hr;exact hnt vs rfl
 ·simp at hr
theorem St.get_range{x:PObj}(h:st.get k=some x):True:=trivial
theorem St.get_put_same(o:Option PObj)(h:True):(st.put k o).get k=o:=Yaf st k o
def PObj.froze:PObj→PObj
 |.cells cs _=>.cells cs true
 |o=>o
theorem Nc9:∀ (ks:List Nat) (st:St) (k:Nat),(NaI st ks).get k=if k∈ks then(st.get k).map PObj.froze else st.get k
 |[],st,k=>by simp[NaI]
 |k0::ks,st,k=>by
   simp only[NaI];rw[Nc9 ks];by_cases h0:k0=k
   ·subst h0;have e:(Ncy st k0).get k0=(st.get k0).map PObj.froze:=by
     unfold Ncy;split
     ·rename_i cs z hg;rw[St.get_put_same _ (St.get_range hg),hg];rfl
     ·rename_i hg;cases hh:st.get k0 with
      |none=>rfl
      |some o=>cases o with
        |cells cs z=>exact absurd hh (hg cs z)
        |map es=>rfl
        |iter l p=>rfl
        |bld T=>rfl
        |bytes T l=>rfl
    rw[e];simp only[List.mem_cons,true_or,if_true];split
    ·cases st.get k0 with
     |none=>rfl
     |some o=>cases o<;>rfl
    ·rfl
   ·have e:(Ncy st k0).get k=st.get k:=by
     unfold Ncy;split
     ·exact Yae h0
     ·rfl
    rw[e];simp[show ¬ k=k0 from fun h=>h0 h.symm]
theorem Sim.less{st2:St}(h:Sim G st w base)(hl:∀ j x,st2.get j=some x→st.get j=some x):Sim G st2 w base:=by
 have hl':∀ j,(st2.get j).isSome→(st.get j).isSome:=by
  intro j hj;obtain⟨x,hx⟩:=Option.isSome_iff_exists.1 hj;rw[hl j x hx];rfl
 exact⟨h.bas,h.frz,fun k cs z b s hg=>h.cells k cs z b s (hl _ _ hg),fun k cs b s hg=>h.frzd k cs b s (hl _ _ hg),fun k cs b s hg=>h.free k cs b s (hl _ _ hg),
  fun k k' x x' a b=>h.inj k k' x x' (hl' _ a) (hl' _ b),fun k x a=>h.low k x (hl' _ a),fun k es b s hg=>h.mps k es b s (hl _ _ hg)⟩
theorem St.drop_less(st:St)(k:Nat):∀ j x,(st.put k none).get j=some x→j≠k∧st.get j=some x:=by
 intro j x h;rcases St.get_put h with⟨_,e⟩|⟨hne,h'⟩
 ·simp at e
 ·exact⟨fun e=>hne e.symm,h'⟩
theorem Sim.move{w':World}(h:Sim G st w base){F':Nat→Nat→Option Value}(hle:∀ b o u,G.F b o=some u→F' b o=some u)(hF:∀ b o u,F' b o=some u→w'.cell? ⟨b,o,none⟩=some u)(hsz:w.heap.size≤w'.heap.size)
 (hk:∀ k x,(st.get k).isSome→G.B k=some x→w'.heap[x.1]? = w.heap[x.1]?) (hfree:∀ k po x,st.get k=some po→po.opn=true→G.B k=some x→∀ o,F' x.1 o=none):Sim ⟨F',G.B⟩ st w' base:=by
 have hG:G.le ⟨F',G.B⟩:=⟨hle,fun _ _ h=>h⟩;refine⟨Nat.le_trans h.bas hsz,hF,?_,?_,?_,h.inj,?_,?_⟩
 rotate_right 1
 ·intro k es b s hg hB;obtain⟨obj,g1,g2⟩:=h.mps k es b s hg hB;exact⟨obj,by rw[hk k (b,s) (by rw[hg];rfl) hB];exact g1,g2.mono hG⟩
 ·intro k cs z b s hg hB;obtain⟨cur,ty,m,g1,g2,g3,g4,g5⟩:=h.cells k cs z b s hg hB;exact⟨cur,ty,m,by rw[hk k (b,s) (by rw[hg];rfl) hB];exact g1,g2,g3,g4,g5.mono hG⟩
 ·intro k cs b s hg hB i hi;obtain⟨u,hu⟩:=h.frzd k cs b s hg hB i hi;exact⟨u,hle _ _ _ hu⟩
 ·intro k cs b s hg ho hB;exact hfree k cs (b,s) hg ho hB
 ·intro k x a b;have:=h.low k x a b;exact⟨this.1,by omega⟩
theorem Sim.adopt(h:Sim G st w base)(key:Nat)(hk:G.B key=none){blk:Nat}(ho:NhP G.F w base v blk sz n cs)(hno:∀ k x,(st.get k).isSome→G.B k=some x→x.1≠blk) :
 ∃ size,VRel ⟨G.F,fun j=>if j=key then some (blk,size)else G.B j⟩ v (.rsl key sz 0 n)∧Sim ⟨G.F,fun j=>if j=key then some (blk,size)else G.B j⟩ (st.put key (some (.cells cs false))) w base:=by
 obtain⟨size,cap,cur,ty,m,rfl,h1,h2,h3,h4,h5,h6,h7,h8,h9,h10,h11⟩:=ho;have hle:G.le ⟨G.F,fun j=>if j=key then some (blk,size)else G.B j⟩:=⟨fun _ _ _ h=>h,fun k x hx=>by show(if k=key then _ else G.B k)=_;rw[if_neg (by intro e;subst e;rw[hk]at hx;simp at hx)];exact hx⟩;have hBe:∀ j x,(if j=key then some (blk,size)else G.B j)=some x→j≠key→G.B j=some x:=fun j x hx hne=>by rwa[if_neg hne]at hx
 have hgs:∀ j,((st.put key (some (PObj.cells cs false))).get j).isSome→j≠key→(st.get j).isSome:=by
  intro j hj hne;rwa[Yae (fun e=>hne e.symm)]at hj
 refine⟨size,.rsl key sz 0 n blk size cap Zaf h1 h2 Zaa h4,h.bas,h.frz,?_,?_,?_,?_,?_,?_⟩
 rotate_right 1
 ·intro k es b s hg hB;by_cases e:k=key
  ·subst e;simp only[if_pos,Sj,Pj]at hB;obtain⟨rfl,rfl⟩:=hB;rcases St.get_put hg with⟨_,e⟩|⟨hne,_⟩
   ·simp only[Sj]at e;subst e;exact⟨_,h5,trivial⟩
   ·exact absurd rfl hne
  ·rw[Yae (fun e'=>e e'.symm)]at hg;obtain⟨obj,g1,g2⟩:=h.mps k es b s hg (hBe k _ hB e);exact⟨obj,g1,g2.mono hle⟩
 ·intro k cs' z b s hg hB;by_cases e:k=key
  ·subst e;rcases St.get_put hg with⟨_,e⟩|⟨hne,_⟩
   ·simp only[Sj,PObj.cells.injEq]at e;obtain⟨rfl,rfl⟩:=e;simp only[if_pos,Sj,Pj]at hB;obtain⟨rfl,rfl⟩:=hB;exact⟨cur,ty,m,h5,h6,h7,h8,FC.toC (G:=⟨G.F,_⟩) h9⟩
   ·exact absurd rfl hne
  ·rw[Yae (fun e'=>e e'.symm)]at hg;obtain⟨c0,t0,m0,g1,g2,g3,g4,g5⟩:=h.cells k cs' z b s hg (hBe k _ hB e);exact⟨c0,t0,m0,g1,g2,g3,g4,g5.mono hle⟩
 ·intro k cs' b s hg hB;by_cases e:k=key
  ·subst e;rcases St.get_put hg with⟨_,e⟩|⟨hne,_⟩
   ·simp at e
   ·exact absurd rfl hne
  ·rw[Yae (fun e'=>e e'.symm)]at hg;exact h.frzd k cs' b s hg (hBe k _ hB e)
 ·intro k cs' b s hg ho hB;by_cases e:k=key
  ·subst e;simp only[if_pos,Sj,Pj]at hB;obtain⟨rfl,rfl⟩:=hB;exact h10
  ·rw[Yae (fun e'=>e e'.symm)]at hg;exact h.free k cs' b s hg ho (hBe k _ hB e)
 ·intro i j x y hi hj hBi hBj e;by_cases e1:i=key
  ·by_cases e2:j=key
   ·omega
   ·simp only[if_pos e1,Sj]at hBi;subst hBi;exact absurd e.symm (hno j y (hgs j hj e2) (hBe j y hBj e2))
  ·by_cases e2:j=key
   ·simp only[if_pos e2,Sj]at hBj;subst hBj;exact absurd e (hno i x (hgs i hi e1) (hBe i x hBi e1))
   ·exact h.inj i j x y (hgs i hi e1) (hgs j hj e2) (hBe i x hBi e1) (hBe j y hBj e2) e
 ·intro k x hg hB;by_cases e:k=key
  ·simp only[if_pos e,Sj]at hB;subst hB;exact⟨h11,(Array.getElem?_eq_some_iff.1 h5).1⟩
  ·exact h.low k x (hgs k hg e) (hBe k x hB e)
theorem Ncm{F F2:Nat→Nat→Option Value}:∀ (f:Nat) {v:Value}{p:PV},p.closed f=true→FRel F v p→FRel F2 v p
 |0,v,p,h,_=>by simp[PV.closed]at h
 |f+1,v,p,h,hr=>by
   cases hr with
   |und v=>exact .und v
   |i k n=>exact .i k n
   |b x=>exact .b x
   |s l=>exact .s l
   |nsl=>exact .nsl
   |fnull a cap hm=>exact .fnull a cap hm
   |nptr=>exact .nptr
   |nfn=>exact .nfn
   |nmp=>exact .nmp
   |agg cs ps hl hh =>
     simp only[PV.closed,List.all_eq_true]at h;exact .agg cs ps hl fun i v p hv hp=>Ncm f (h p (List.mem_of_getElem? hp)) (hh i v p hv hp)
   |tup cs ps hl hh =>
     simp only[PV.closed,List.all_eq_true]at h;exact .tup cs ps hl fun i v p hv hp=>Ncm f (h p (List.mem_of_getElem? hp)) (hh i v p hv hp)
   |fsl b o n cap ps g hc hm hF hh =>
     simp only[PV.closed,Bool.and_eq_true,beq_iff_eq,List.isEmpty_iff]at h;obtain⟨rfl,rfl⟩:=h;exact .fnull _ _ hm
theorem Nfu{o:Option PObj}(h:(o.map PObj.froze).isSome):o.isSome:=by simpa using h
theorem Nd5:∀ {vs:List PV}{i sz n:Nat}{cs:List PV},NeR vs=some (i,sz,n,cs)→vs[i]? = some (.osl sz n cs)
 |[],i,sz,n,cs,h=>by simp[NeR]at h
 |v::r,i,sz,n,cs,h=>by
   simp only[NeR]at h;split at h
   ·rename_i x hx;simp only[Sj,Pj]at h;obtain⟨rfl,rfl⟩:=h;cases v<;>simp[PV.isO]at hx;obtain⟨rfl,rfl,rfl⟩:=hx;rfl
   ·simp only[Option.map_eq_some_iff,Pj]at h;obtain⟨y,hy,rfl,hy2⟩:=h;obtain⟨j,z⟩:=y;simp only[]at hy2;subst hy2;simpa using Nd5 hy
theorem NeS:∀ {vs:List PV},NeR vs=none→∀ p∈vs,p.isO=none
 |[],_,p,hp=>by simp at hp
 |v::r,h,p,hp=>by
   simp only[NeR]at h;split at h
   ·simp at h
   ·rename_i hv;simp only[Option.map_eq_none_iff]at h;rcases List.mem_cons.1 hp with rfl|hp
    ·exact hv
    ·exact NeS h p hp
theorem RRel1.toF{F:Nat→Nat→Option Value}{A:Nat→Prop}{p:PV}(h:RRel1 F w base A v p)(hp:p.isO=none):FRel F v p:=by
 cases p<;>first|exact h|simp[PV.isO]at hp
theorem Nfm{G1:Ghost}{w':World}(hs:Sim G st w base){keys:List Nat}(hle:G.le G1)(hB1:G1.B=G.B)(hs1:Sim G1 (NaI st keys) w base)
 (hnew1:∀ b o u,G1.F b o=some u→G.F b o=some u∨∃ k size,k∈keys∧(st.get k).isSome∧G.B k=some (b,size)) {gk gv:Option Nat}(hg:(gk=none∧gv=none)∨∃ k blk size cs,gk=some k∧gv=some blk∧st.get k=some (.cells cs false)∧G.B k=some (blk,size)∧k∉keys)
 {v:Value}{r:PV}{F':Nat→Nat→Option Value}(hF1:∀ b o u,G1.F b o=some u→F' b o=some u) (hF2:∀ b o u,F' b o=some u→w'.cell? ⟨b,o,none⟩=some u) (hos:w'.os=w.os) (hta:w'.tape=w.tape) (hou:w'.output=w.output) (hsz:w.heap.size≤w'.heap.size)
 (hkept:∀ j,j<w.heap.size→some j≠gv→w'.heap[j]? = w.heap[j]?) (hfn:∀ b o u,F' b o=some u→G1.F b o=some u∨w.heap.size≤b∨some b=gv) (hr:NoK F' w' base (fun b=>w.heap.size≤b∨some b=gv) v r)
 {st1:St}(hst1:st1=match gk with|none=>st|some k=>st.put k none) (key:Nat) (hkey:G.B key=none) {p:PV}{st':St}(hrec:NaE (if r.closedB then st1 else NaI st1 keys) key r=some (p,st')) :
 ∃ G',VRel G' v p∧Step base (fun k=>k=key) G st w G' st' w':=by
 -- the store without what was handed over
 have hless:∀ j x,st1.get j=some x→st.get j=some x∧some j≠gk:=by
  intro j x hx;subst hst1;cases gk with
  |none=>exact⟨hx,by simp⟩
  |some k =>
    obtain⟨h1,h2⟩:=St.drop_less st k j x hx;exact⟨h2,by simpa using h1⟩
 have hblk:∀ j x,(st1.get j).isSome→G.B j=some x→x.1<w.heap.size∧some x.1≠gv:=by
  intro j x hj hB;obtain⟨y,hy⟩:=Option.isSome_iff_exists.1 hj;obtain⟨h1,h2⟩:=hless j y hy;refine⟨(hs.low j x (by rw[h1];rfl) hB).2,?_⟩;rcases hg with⟨_,rfl⟩|⟨k,blk,size,cs,rfl,rfl,h3,h4,_⟩
  ·simp
  ·intro e;simp only[Sj]at e;exact h2 (by rw[hs.inj j k x (blk,size) (by rw[h1];rfl) (by rw[h3];rfl) hB h4 e])
 obtain⟨F3,st2,hst2,hF31,hF32,hF33,hsim,hrel⟩:∃ (F3:Nat→Nat→Option Value) (st2:St),st2=(if r.closedB then st1 else NaI st1 keys)∧(∀ b o u,G.F b o=some u→F3 b o=some u) ∧
  (∀ b o u,F3 b o=some u→G.F b o=some u∨w.heap.size≤b∨∃ k0 x0,(st.get k0).isSome∧G.B k0=some x0∧x0.1=b)∧(∀ b o u,F3 b o=some u→F' b o=some u)∧Sim ⟨F3,G.B⟩ st2 w' base∧NoK F3 w' base (fun b=>w.heap.size≤b∨some b=gv) v r:=by
  have hown:∀ b,some b=gv→∃ k0 x0,(st.get k0).isSome∧G.B k0=some x0∧x0.1=b:=by
   intro b hb;rcases hg with⟨_,rfl⟩|⟨k,blk,size,cs,rfl,rfl,h3,h4,_⟩
   ·simp at hb
   ·simp only[Sj]at hb;exact⟨k,(blk,size),by rw[h3];rfl,h4,hb.symm⟩
  by_cases hcl:r.closedB=true
  ·refine⟨G.F,st1,by rw[if_pos hcl],fun _ _ _ h=>h,fun _ _ _ h=>.inl h,fun b o u h=>hF1 b o u (hle.F b o u h),?_,?_⟩
   ·refine(hs.less (fun j x h=>(hless j x h).1)).move (fun _ _ _ h=>h) (fun b o u h=>hF2 b o u (hF1 b o u (hle.F b o u h))) hsz ?_ ?_
    ·intro k x hk hB;obtain⟨h1,h2⟩:=hblk k x hk hB;exact hkept x.1 h1 h2
    ·intro k cs x hk ho hB o;exact hs.free k cs x.1 x.2 (hless k _ hk).1 ho hB o
   ·have hconv:∀ (u:Value) (q:PV),q.closed 11=true∨q.closed Ndt=true→RRel1 F' w' base (fun b=>w.heap.size≤b∨some b=gv) u q→RRel1 G.F w' base (fun b=>w.heap.size≤b∨some b=gv) u q:=by
     intro u q hq h;cases q
     case osl sz n cs =>
      obtain⟨blk,hA,size,cap,cur,ty,m,e1,h1,h2,h3,h4,h5,h6,h7,h8,h9,h10,h11⟩:=h;refine⟨blk,hA,size,cap,cur,ty,m,e1,h1,h2,h3,h4,h5,h6,h7,h8,⟨h9.1,fun i u p hu hp=>?_⟩,?_,h11⟩
      ·rcases hq with hq|hq
       ·simp only[PV.closed,List.all_eq_true]at hq;exact Ncm 10 (hq p (List.mem_of_getElem? hp)) (h9.2 i u p hu hp)
       ·simp only[Ndt,PV.closed,List.all_eq_true]at hq;exact Ncm 11 (hq p (List.mem_of_getElem? hp)) (h9.2 i u p hu hp)
      ·intro o;cases hx:G.F blk o with
       |none=>rfl
       |some u =>
         have:=hF1 blk o u (hle.F blk o u hx);rw[h10 o]at this;simp at this
     all_goals (rcases hq with hq|hq<;>exact Ncm _ hq h)
    cases r
    case tup ps =>
     obtain⟨us,rfl,h1,h2⟩:=hr;refine⟨us,rfl,h1,fun i u q hu hq=>hconv u q (.inl ?_) (h2 i u q hu hq)⟩;simp only[PV.closedB,Ndt,PV.closed,List.all_eq_true]at hcl;exact hcl q (List.mem_of_getElem? hq)
    all_goals exact hconv _ _ (.inr hcl) hr
  ·refine⟨F',NaI st1 keys,by rw[if_neg hcl],fun b o u h=>hF1 b o u (hle.F b o u h),?_,fun _ _ _ h=>h,?_,hr⟩
   ·intro b o u h;rcases hfn b o u h with h1|h1|h1
    ·rcases hnew1 b o u h1 with h2|⟨k,size,_,h3,h4⟩
     ·exact .inl h2
     ·exact .inr (.inr ⟨k,(b,size),h3,h4,rfl⟩)
    ·exact .inr (.inl h1)
    ·exact .inr (.inr (hown b h1))
   ·have hl2:∀ j x,(NaI st1 keys).get j=some x→(NaI st keys).get j=some x:=by
     intro j x hx;rw[Nc9]at hx ⊢;split at hx
     ·rename_i hj;rw[if_pos hj];simp only[Option.map_eq_some_iff]at hx ⊢;obtain⟨y,hy,rfl⟩:=hx;exact⟨y,(hless j y hy).1,rfl⟩
     ·rename_i hj;rw[if_neg hj];exact(hless j x hx).1
    have hl3:∀ j,((NaI st1 keys).get j).isSome→(st1.get j).isSome:=by
     intro j hj;rw[Nc9]at hj;split at hj
     ·exact Nfu hj
     ·exact hj
    have:=(hs1.less hl2).move (F':=F') hF1 hF2 hsz ?_ ?_
    ·rw[hB1]at this;exact this
    ·intro k x hk hB;rw[hB1]at hB;obtain⟨h1,h2⟩:=hblk k x (hl3 k hk) hB;exact hkept x.1 h1 h2
    ·intro k cs x hk hop hB o;cases hx:F' x.1 o with
     |none=>rfl
     |some u =>
       have hB':=hB;rw[hB1]at hB';obtain⟨h1,h2⟩:=hblk k x (hl3 k (by rw[hk];rfl)) hB';rcases hfn x.1 o u hx with h3|h3|h3
       ·rw[hs1.free k cs x.1 x.2 (hl2 k _ hk) hop hB o]at h3;simp at h3
       ·omega
       ·exact absurd h3 h2
 rw[←hst2]at hrec;have hs2some:∀ j,(st2.get j).isSome→(st1.get j).isSome:=by
  intro j hj;rw[hst2]at hj;split at hj
  ·exact hj
  ·rw[Nc9]at hj;split at hj
   ·exact Nfu hj
   ·exact hj
 have hs1some:∀ j,(st1.get j).isSome→(st.get j).isSome:=by
  intro j hj;obtain⟨y,hy⟩:=Option.isSome_iff_exists.1 hj;rw[(hless j y hy).1];rfl
 have hkept':∀ j,j<w.heap.size→(∀ k x,(st.get k).isSome→G.B k=some x→x.1≠j)→w'.heap[j]? = w.heap[j]?:=by
  intro j hj hno;refine hkept j hj ?_;rcases hg with⟨_,rfl⟩|⟨k,blk,size,cs,rfl,rfl,h3,h4,_⟩
  ·simp
  ·intro e;simp only[Sj]at e;exact hno k (blk,size) (by rw[h3];rfl) h4 e.symm
 have hnomatch:∀ blk,(w.heap.size≤blk∨some blk=gv)→∀ k x,(st2.get k).isSome→G.B k=some x→x.1≠blk:=by
  intro blk hA k x hk hB e;obtain⟨h1,h2⟩:=hblk k x (hs2some k hk) hB;rcases hA with h|h
  ·omega
  ·exact h2 (by rw[e];exact h)
 have hAown:∀ blk,(w.heap.size≤blk∨some blk=gv)→w.heap.size≤blk∨∃ k0 x0,(st.get k0).isSome∧G.B k0=some x0∧x0.1=blk:=by
  intro blk hA;rcases hA with h|h
  ·exact .inl h
  ·rcases hg with⟨_,rfl⟩|⟨k,blk',size,cs,rfl,rfl,h3,h4,_⟩
   ·simp at h
   ·simp only[Sj]at h;exact .inr ⟨k,(blk',size),by rw[h3];rfl,h4,h.symm⟩
 -- no new object
 have plainly:st'=st2→∃ _:True,Step base (fun k=>k=key) G st w ⟨F3,G.B⟩ st' w':=by
  rintro rfl;exact⟨trivial,⟨hF31,fun _ _ h=>h⟩,fun k x h=>.inl h,hsim,hos,hta,hou,hsz,hkept',fun k x hk hB=>.inr ⟨k,x,hs1some k (hs2some k hk),hB,rfl⟩,hF32,fun k hk=>.inl (hs1some k (hs2some k hk))⟩
 -- a new object
 have newly:∀ {u:Value}{sz n:Nat}{cs:List PV},RRel1 F3 w' base (fun b=>w.heap.size≤b∨some b=gv) u (.osl sz n cs)→st'=st2.put key (some (.cells cs false))→∃ G',(∀ b o u,F3 b o=some u→G'.F b o=some u)∧VRel G' u (.rsl key sz 0 n)∧Step base (fun k=>k=key) G st w G' st' w':=by
  rintro u sz n cs ⟨blk,hA,ho⟩ rfl;obtain⟨size,h1,h2⟩:=hsim.adopt key hkey ho (hnomatch blk hA);refine⟨_,fun _ _ _ h=>h,h1,⟨hF31,fun k x hx=>?_⟩,?_,h2,hos,hta,hou,hsz,hkept',?_,hF32,fun k hk=>by
   by_cases e:k=key
   ·right;simp[e]
   ·rw[Yae (fun e'=>e e'.symm)]at hk;exact .inl (hs1some k (hs2some k hk))⟩
  ·show(if k=key then _ else G.B k)=_;rw[if_neg (by intro e;subst e;rw[hkey]at hx;simp at hx)];exact hx
  ·intro k x hx;by_cases e:k=key
   ·exact .inr e
   ·left;simpa[e]using hx
  ·intro k x hk hB;by_cases e:k=key
   ·simp only[if_pos e,Sj]at hB;subst hB;exact hAown blk hA
   ·rw[Yae (fun e'=>e e'.symm)]at hk;have hB':G.B k=some x:=(by simpa[e]using hB);exact .inr ⟨k,x,hs1some k (hs2some k hk),hB',rfl⟩
 cases r
 case osl sz n cs =>
  simp only[NaE,Sj,Pj]at hrec;obtain⟨rfl,hst'⟩:=hrec;obtain⟨G',_,h2,h3⟩:=newly hrel hst'.symm;exact⟨G',h2,h3⟩
 case tup ps =>
  obtain⟨us,rfl,hl,hps⟩:=hrel;simp only[NaE]at hrec;split at hrec
  ·rename_i i sz n cs hfo;split at hrec
   ·rename_i hall;simp only[Sj,Pj]at hrec;obtain⟨rfl,hst'⟩:=hrec;have hi:=Nd5 hfo;have hip:i<ps.length:=(List.getElem?_eq_some_iff.1 hi).1;have hiu:i<us.size:=(by omega);obtain⟨G',h1,h2,h3⟩:=newly (hps i us[i] _ (by simp[hiu]) hi) hst'.symm;refine⟨G',.tup us _ (by simp[hl]) ?_,h3⟩;intro j u q hu hq;by_cases hj:i=j
    ·subst hj;rw[List.getElem?_set_self hip]at hq;simp only[Sj]at hq;subst hq;have:u=us[i]:=(by simp[hiu]at hu;exact hu.symm);rw[this];exact h2
    ·rw[List.getElem?_set_ne hj]at hq;have hno:q.isO=none:=by
      have:=List.all_eq_true.1 hall q (List.mem_of_getElem? (by rw[List.getElem?_set_ne hj];exact hq));simpa using this
     exact(((hps j u q hu hq).toF hno).mono h1).toV
   ·simp at hrec
  ·rename_i hfo;simp only[Sj,Pj]at hrec;obtain⟨rfl,hst'⟩:=hrec;obtain⟨_,h3⟩:=plainly hst'.symm;exact⟨_,.tup us _ hl (fun j u q hu hq=>FRel.toV (G:=⟨F3,G.B⟩) ((hps j u q hu hq).toF (NeS hfo q (List.mem_of_getElem? hq)))),h3⟩
 all_goals
  simp only[NaE,Sj,Pj]at hrec;obtain⟨rfl,hst'⟩:=hrec;obtain⟨_,h3⟩:=plainly hst'.symm;exact⟨_,FRel.toV (G:=⟨F3,G.B⟩) hrel,h3⟩
end
end Go.Pe
