/- Lemmas for ScriptRuns. -/
import Derived.Shelf.Strconv.Itoa3
import Derived.Lib.ItoaLen
import Derived.Test.YthcbjeeajoliiaaGreatDoorM08
import Derived.Test.YthcbjeeajoliiaaGreatDoorM12
set_option maxRecDepth 100000
set_option maxHeartbeats 4000000
set_option linter.unusedVariables false
set_option linter.unusedSimpArgs false
namespace Go.Proofs.YthcbjeeajoliiaaGreatDoor
open Go.Shelf
open Go.RowKit
open Tryz
section
def Si.DK:Go.Shelf.Ren:=⟨fun|171=>37|243=>62|246=>92|283=>109|284=>110|285=>111|286=>112|129=>132|317=>131|318=>133|319=>134|320=>135|337=>170|338=>171|n=>n,fun|3=>3|9=>9|2=>2|4=>4|171=>193|0=>0|53=>194|37=>51|5=>5|173=>197|212=>219|51=>220|20=>20|213=>221|46=>87|232=>283|233=>284|n=>n,fun|17=>0|18=>2|19=>3|n=>n⟩
theorem Si.lays171:Go.Proofs.Lays.n171 prog Si.DK:={
  mixed:=by kernel_rfl,
  f129:=func132.trans (congrArg some (by kernel_rfl)),
  f171:=func37.trans (congrArg some (by kernel_rfl)),
  f243:=func62.trans (congrArg some (by kernel_rfl)),
  f246:=func92.trans (congrArg some (by kernel_rfl)),
  f283:=func109.trans (congrArg some (by kernel_rfl)),
  f284:=func110.trans (congrArg some (by kernel_rfl)),
  f285:=func111.trans (congrArg some (by kernel_rfl)),
  f286:=func112.trans (congrArg some (by kernel_rfl)),
  f317:=func131.trans (congrArg some (by kernel_rfl)),
  f318:=func133.trans (congrArg some (by kernel_rfl)),
  f319:=func134.trans (congrArg some (by kernel_rfl)),
  f320:=func135.trans (congrArg some (by kernel_rfl)),
  f337:=func170.trans (congrArg some (by kernel_rfl)),
  f338:=func171.trans (congrArg some (by kernel_rfl)),
  t0:=underlying0,
  a0:=Tryz.isAgg0,
  z0:=Tryz.sizeOf0,
  v0:=Tryz.zeroValue0,
  t2:=underlying2,
  a2:=Tryz.isAgg2,
  z2:=Tryz.sizeOf2,
  v2:=Tryz.zeroValue2,
  t3:=underlying3,
  a3:=Tryz.isAgg3,
  z3:=Tryz.sizeOf3,
  v3:=Tryz.zeroValue3,
  t4:=underlying4,
  a4:=Tryz.isAgg4,
  z4:=Tryz.sizeOf4,
  v4:=Tryz.zeroValue4,
  t5:=underlying5,
  a5:=Tryz.isAgg5,
  z5:=Tryz.sizeOf5,
  v5:=Tryz.zeroValue5,
  t9:=underlying9,
  a9:=Tryz.isAgg9,
  z9:=Tryz.sizeOf9,
  v9:=Tryz.zeroValue9,
  t20:=underlying20,
  a20:=Tryz.isAgg20,
  z20:=Tryz.sizeOf20,
  v20:=Tryz.zeroValue20,
  t37:=underlying51,
  a37:=Tryz.isAgg51,
  z37:=Tryz.sizeOf51,
  v37:=Tryz.zeroValue51,
  t46:=underlying87,
  a46:=Tryz.isAgg87,
  z46:=Tryz.sizeOf87,
  v46:=Tryz.zeroValue87,
  t51:=underlying220,
  a51:=Tryz.isAgg220,
  z51:=Tryz.sizeOf220,
  v51:=Tryz.zeroValue220,
  t53:=underlying194,
  a53:=Tryz.isAgg194,
  z53:=Tryz.sizeOf194,
  v53:=Tryz.zeroValue194,
  t171:=underlying193,
  a171:=Tryz.isAgg193,
  z171:=Tryz.sizeOf193,
  v171:=Tryz.zeroValue193,
  t173:=underlying197,
  a173:=Tryz.isAgg197,
  z173:=Tryz.sizeOf197,
  v173:=Tryz.zeroValue197,
  t212:=underlying219,
  a212:=Tryz.isAgg219,
  z212:=Tryz.sizeOf219,
  v212:=Tryz.zeroValue219,
  t213:=underlying221,
  a213:=Tryz.isAgg221,
  z213:=Tryz.sizeOf221,
  t232:=underlying283,
  a232:=Tryz.isAgg283,
  z232:=Tryz.sizeOf283,
  v232:=Tryz.zeroValue283,
  t233:=underlying284,
  a233:=Tryz.isAgg284,
  z233:=Tryz.sizeOf284,
  v233:=Tryz.zeroValue284,
  g17:=by kernel_rfl,
  g18:=by kernel_rfl,
  g19:=by kernel_rfl}
theorem Si.laysM171:Go.Proofs.LaysM.n171 prog Si.DK:={Si.lays171 with
  i0:=by kernel_rfl,i2:=by kernel_rfl,i3:=by kernel_rfl,i4:=by kernel_rfl,i5:=by kernel_rfl,i9:=by kernel_rfl,i20:=by kernel_rfl,i37:=by kernel_rfl,i46:=by kernel_rfl,i51:=by kernel_rfl,i53:=by kernel_rfl,i171:=by kernel_rfl,i173:=by kernel_rfl,i212:=by kernel_rfl,i232:=by kernel_rfl,i233:=by kernel_rfl,m17:=by kernel_rfl,m18:=by kernel_rfl,m19:=by kernel_rfl}
end
def Tabs (w:World):Prop:=∃t fr,w.heap[0]? =some (.cells (Lib.pow10Tab.map fun z=>Value.int .u64 z).toArray t fr)
theorem Tabs.fr {S:Nat→Prop} {w w':World} (h:Tabs w) (hf:Fr S w w') (hS:¬S 0):Tabs w':=by obtain⟨t,fr,hb⟩:=h;exact⟨t,fr,hf.heap hb hS⟩
theorem Tabs.lt {w:World} (h:Tabs w):0<w.heap.size:=by obtain⟨t,fr,hb⟩:=h;exact(Array.getElem?_eq_some_iff.1 hb).1
theorem Tabs.tab {w : World} (h : Tabs w) : Lib.TabIs prog w "internal/strconv.uint64pow10" .u64 Lib.pow10Tab := by obtain ⟨t, fr, hb⟩ := h; (have hg : prog.globalNamed "internal/strconv.uint64pow10" = some 0 := by kernel_rfl); unfold Lib.TabIs World.var?; rw [hg, Option.bind_some, hb]
theorem Zq (w:World) (os:Array Obj):Fr No w (Go.Sort.grow w os):=⟨rfl,rfl,rfl,by simp,fun k hk _=>Go.Sort.heap_grow_old w os hk⟩
theorem oG (w:World) (n:Int) (h:Tabs w) (h0: -9223372036854775808≤n) (h1:n≤9223372036854775807):Calls prog 37 #[.int .i64 n] w fun e w'=>e=.returned (.string ⟨(Lib.itoa n).toArray⟩)∧Fr No w w':=by refine(Any.strconv_Itoa Si.laysM171 n h0 h1 w h.tab).mono ?_;rintro e w' ⟨rfl,k,os,rfl⟩;exact⟨rfl,((Fr.refl No w).drewN k).trans (Zq _ os) ai⟩
open Cr (Str jk gQ bK)
theorem NF:∀(k n:Nat) (acc:Str),n<k→Cr.Rw k n acc=Lib.decDigits n++acc
  |0,n,acc,h=>by omega
  |k+1,n,acc,h=>by
    unfold Cr.Rw
    rw[Lib.decDigits]
    split
    · simp
    · rename_i hn
      rw[NF k (n/10) _ (by omega)]
      simp
theorem Xk (n:Nat):Cr.dec n=Lib.decDigits n:=by unfold Cr.dec;rw[NF _ _ _ (by omega),List.append_nil]
theorem wC (n:Int):Lib.itoa n=Cr.itoa n:=by unfold Lib.itoa Cr.itoa;rw[Xk,Xk]
theorem fK {n:Int} (h0: -9223372036854775808≤n) (h1:n≤9223372036854775807):(Cr.itoa n).length≤21:=by rw[←wC];exact Lib.itoa_length_le n h0 h1
theorem CQ (l:List jk) (f:jk):Cr.dQ (l++[f])=Cr.dQ l++(f.name++(58::32::(f.value++[13,10]))):=by induction l with|nil=>(simp[Cr.dQ])|cons a l ih=>(simp[Cr.dQ,ih])
theorem F7 (l:List jk) (k:Nat) (f:jk) (h:l[k]? =some f):Cr.dQ (l.take (k+1))=Cr.dQ (l.take k)++(f.name++(58::32::(f.value++[13,10]))):=by rw[List.take_add_one,h,Option.toList_some,CQ]
theorem zn (N:Nat):∀(l:List jk),(∀f∈l,f.name.length≤N∧f.value.length≤N)→(Cr.dQ l).length≤l.length*(2*N+4)
  |[],_=>by simp[Cr.dQ]
  |f::l,h=>by
    have h1:=zn N l (fun x hx=>h x (List.mem_cons_of_mem _ hx))
    have h2:=h f (List.mem_cons_self ..)
    simp only[Cr.dQ,List.length_append,List.length_cons]
    rw[Nat.add_mul]
    omega
theorem Qa (P:Nat→Prop) (w:World) (A:Option Addr) (c:Nat) (r:bK) (hr:Rd P w A (jd r.fields)) (hl:r.fields.length≤100) (hs:∀f∈r.fields,f.name.length≤1000000∧f.value.length≤1000000) (hb:r.body.length≤1000000) (ht:Tabs w) (h0: -9223372036854775808≤r.status) (h1:r.status≤9223372036854775807):Calls prog 90 #[.agg #[.int .i64 r.status,.slice A r.fields.length c,.string ⟨r.body.toArray⟩,.bool r.close]] w fun e w'=>e=.returned (.string ⟨(Cr.qf r).toArray⟩)∧Fr No w w':=by have hres:Tryz.f90.results=#[.tmp 2]:=rfl;(have hT:∀W,Fr No w W→Tabs W:=fun W hW=>ht.fr hW id);have HI:=ae (fun W (hW:Fr No w W)=>oG W r.status (hT W hW) h0 h1);have HJ:=ae (fun W (hW:Fr No w W)=>oG W (r.body.length:Int) (hT W hW) (by omega) (by omega));rw[wC]at HI;obtain⟨I,hI⟩:=ak (Cr.itoa r.status);obtain⟨J,hJ⟩:∃J,Cr.itoa (r.body.length:Int)=J:=⟨_,rfl⟩;obtain⟨W,hW⟩:=ak (Cr.jO r.status);have lI:=hI▸fK h0 h1;have lJ:=hJ▸fK (by omega) (by omega);have lW:=hW▸jA r.status;have HWd:=ae (fun W'=>Ry W' r.status);have HE:=ae (show Cr.qf r=Cr.AZ++I++32::(W++13::10::(Cr.dQ r.fields++((if r.close then Cr.rX else [])++(Cr.uS++(J++(13::10::13::10::r.body))))))by rw[←hI,←hJ,←hW];rfl);rw[hI]at HI;rw[wC,hJ]at HJ;rw[hW]at HWd;clear hI hJ hW;obtain⟨S1,hS1⟩:∃Z0:Str,[72,84,84,80,47,49,46,49,32]++I=Z0:=⟨_,rfl⟩;(have lS1:S1.length=List.length (α:=UInt8) ([72,84,84,80,47,49,46,49,32])+List.length (α:=UInt8) (I):=by rw[←hS1,List.length_append]);(try simp only[List.length_cons,List.length_nil]at lS1);have cS1:∀w,(Op.stringOp .add ⟨List.toArray (α:=UInt8) ([72,84,84,80,47,49,46,49,32])⟩ ⟨List.toArray (α:=UInt8) (I)⟩).run prog w=.ok (.string ⟨S1.toArray⟩) w:=hS1▸bf ([72,84,84,80,47,49,46,49,32]) (I) (by(try simp only[List.length_cons,List.length_nil]);omega);have HS1:=ae hS1;clear hS1;obtain⟨S2,hS2⟩:∃Z0:Str,S1++[32]=Z0:=⟨_,rfl⟩;(have lS2:S2.length=List.length (α:=UInt8) (S1)+List.length (α:=UInt8) ([32]):=by rw[←hS2,List.length_append]);(try simp only[List.length_cons,List.length_nil]at lS2);have cS2:∀w,(Op.stringOp .add ⟨List.toArray (α:=UInt8) (S1)⟩ ⟨List.toArray (α:=UInt8) ([32])⟩).run prog w=.ok (.string ⟨S2.toArray⟩) w:=hS2▸bf (S1) ([32]) (by(try simp only[List.length_cons,List.length_nil]);omega);have HS2:=ae hS2;clear hS2;obtain⟨S3,hS3⟩:∃Z0:Str,S2++W=Z0:=⟨_,rfl⟩;(have lS3:S3.length=List.length (α:=UInt8) (S2)+List.length (α:=UInt8) (W):=by rw[←hS3,List.length_append]);(try simp only[List.length_cons,List.length_nil]at lS3);have cS3:∀w,(Op.stringOp .add ⟨List.toArray (α:=UInt8) (S2)⟩ ⟨List.toArray (α:=UInt8) (W)⟩).run prog w=.ok (.string ⟨S3.toArray⟩) w:=hS3▸bf (S2) (W) (by(try simp only[List.length_cons,List.length_nil]);omega);have HS3:=ae hS3;clear hS3;obtain⟨S4,hS4⟩:∃Z0:Str,S3++[13,10]=Z0:=⟨_,rfl⟩;(have lS4:S4.length=List.length (α:=UInt8) (S3)+List.length (α:=UInt8) ([13,10]):=by rw[←hS4,List.length_append]);(try simp only[List.length_cons,List.length_nil]at lS4);have cS4:∀w,(Op.stringOp .add ⟨List.toArray (α:=UInt8) (S3)⟩ ⟨List.toArray (α:=UInt8) ([13,10])⟩).run prog w=.ok (.string ⟨S4.toArray⟩) w:=hS4▸bf (S3) ([13,10]) (by(try simp only[List.length_cons,List.length_nil]);omega);have HS4:=ae hS4;clear hS4;(have hl':(r.fields.length:Int)≤100:=by omega);have HS:=ae hs;have Hlen:=ae (fun k=>zn 1000000 (r.fields.take k) (fun f hf=>hs f (List.mem_of_mem_take hf)));have sX:Fr No w (w.alloc (.cells #[.int .i64 r.status,.slice A r.fields.length c,.string ⟨r.body.toArray⟩,.bool r.close] 118)):=(Fr.refl _ _).alloc _;have bX:=aO.new w 118 #[.int .i64 r.status,.slice A r.fields.length c,.string ⟨r.body.toArray⟩,.bool r.close];clear hs h0 h1 hT;obtain⟨X,hX⟩:=ak (w.alloc (.cells #[.int .i64 r.status,.slice A r.fields.length c,.string ⟨r.body.toArray⟩,.bool r.close] 118));rw[hX]at sX bX;obtain⟨qb,o9⟩:=ak (w.heap.size);rw[o9]at bX;have HXx:=ae (And.intro hX o9);have q0:=bX.c0;have q1:=bX.c1;have q2:=bX.c2;have q3:=bX.c3;clear hX o9;go_enter func90,ntmps90;go_wp2_with fail;rw[HXx.out.1,HXx.out.2];have HF:=ae sX;refine aZ (Fr No) [0,1,5,6,102,3,4,107,8,9,10] ?_;(iterate 4 (refine aV (fun w' hR=>Fr.cell hR q0 id) ?_));refine aj fun K hK=>?_;refine(HI.out _ sX.drew).mono ?_;rintro e w1 ⟨rfl,hf1⟩;refine hK _ _ hf1 ?_;refine aao ?_;(iterate 2 refine aS ?_);refine aj fun K hK=>?_;refine(HWd.out _).mono ?_;rintro e w2 ⟨rfl,rfl⟩;refine hK _ _ (Fr.refl _ _) ?_;refine aao ?_;(iterate 3 refine aS ?_);refine aQ ?_;have hf2:=(sX.drew).trans hf1 ai;have hf3:=((Fr.refl No X).drew).trans hf1 ai;have q1':=Fr.cell hf3 q1 id;have q2':=Fr.cell hf3 q2 id;have q3':=Fr.cell hf3 q3 id;have Hf2:=ae hf2;clear q0 q1 q2 q3 bX sX hf1 hf2 hf3;go_wp2_with fail;go_loopg [3,19] r.fields.length (fun gm v i wr=>∃(k:Nat),k+gm=r.fields.length∧i=.int .i64 k∧v=.string ⟨(S4++Cr.dQ (r.fields.take k)).toArray⟩∧Fr No w2 wr);(case atStart=>exact⟨0,by omega,rfl,by simp[Cr.dQ],Fr.refl _ _⟩);(case round=>obtain⟨k,hk,rfl,rfl,hfr⟩:=hrel;have hle:=Hlen.out k;(have hmn:(r.fields.take k).length≤100:=by rw[List.length_take];omega);have hle2:(r.fields.take k).length*(2*1000000+4)≤100*(2*1000000+4):=Nat.mul_le_mul_right _ hmn;(by_cases hlt:k<r.fields.length);(·(have hlt':(k:Int)<(r.fields.length:Int):=by omega);obtain⟨f,hf⟩:∃f,r.fields[k]? =some f:=⟨r.fields[k],by simp[hlt]⟩;obtain⟨gb,off,rfl,_,hcell⟩:=hr.form (by intro h;have:=xP r.fields;rw[h]at this;simp at this;omega);have f0:=hfr.cell (Hf2.out.cell (hcell _ _ (A7 hf).1) id) id;have f1:=hfr.cell (Hf2.out.cell (hcell _ _ (A7 hf).2) id) id;rw[←Nat.add_assoc]at f1;obtain⟨n1,n2⟩:=HS.out f (List.mem_of_getElem? hf);have Ht:=ae (F7 r.fields k f hf);obtain⟨acc,hacc⟩:=ak (S4++Cr.dQ (r.fields.take k));(have ahE:acc.length≤300000000:=by rw[←hacc,List.length_append];omega);obtain⟨fn,hfn⟩:=ak (f.name);obtain⟨fv,hfv⟩:=ak (f.value);rw[hfn]at n1 f0 Ht;rw[hfv]at n2 f1 Ht;rw[hacc];have Zw:=ae hacc;obtain⟨T1,hT1⟩:∃Z0:Str,fn++[58,32]=Z0:=⟨_,rfl⟩;(have lT1:T1.length=List.length (α:=UInt8) (fn)+List.length (α:=UInt8) ([58,32]):=by rw[←hT1,List.length_append]);(try simp only[List.length_cons,List.length_nil]at lT1);have cT1:∀w,(Op.stringOp .add ⟨List.toArray (α:=UInt8) (fn)⟩ ⟨List.toArray (α:=UInt8) ([58,32])⟩).run prog w=.ok (.string ⟨T1.toArray⟩) w:=hT1▸bf (fn) ([58,32]) (by(try simp only[List.length_cons,List.length_nil]);omega);have HT1:=ae hT1;clear hT1;obtain⟨T2,hT2⟩:∃Z0:Str,T1++fv=Z0:=⟨_,rfl⟩;(have lT2:T2.length=List.length (α:=UInt8) (T1)+List.length (α:=UInt8) (fv):=by rw[←hT2,List.length_append]);(try simp only[List.length_cons,List.length_nil]at lT2);have cT2:∀w,(Op.stringOp .add ⟨List.toArray (α:=UInt8) (T1)⟩ ⟨List.toArray (α:=UInt8) (fv)⟩).run prog w=.ok (.string ⟨T2.toArray⟩) w:=hT2▸bf (T1) (fv) (by(try simp only[List.length_cons,List.length_nil]);omega);have HT2:=ae hT2;clear hT2;obtain⟨T3,hT3⟩:∃Z0:Str,T2++[13,10]=Z0:=⟨_,rfl⟩;(have lT3:T3.length=List.length (α:=UInt8) (T2)+List.length (α:=UInt8) ([13,10]):=by rw[←hT3,List.length_append]);(try simp only[List.length_cons,List.length_nil]at lT3);have cT3:∀w,(Op.stringOp .add ⟨List.toArray (α:=UInt8) (T2)⟩ ⟨List.toArray (α:=UInt8) ([13,10])⟩).run prog w=.ok (.string ⟨T3.toArray⟩) w:=hT3▸bf (T2) ([13,10]) (by(try simp only[List.length_cons,List.length_nil]);omega);have HT3:=ae hT3;clear hT3;obtain⟨T4,hT4⟩:∃Z0:Str,acc++T3=Z0:=⟨_,rfl⟩;(have lT4:T4.length=List.length (α:=UInt8) (acc)+List.length (α:=UInt8) (T3):=by rw[←hT4,List.length_append]);(try simp only[List.length_cons,List.length_nil]at lT4);have cT4:∀w,(Op.stringOp .add ⟨List.toArray (α:=UInt8) (acc)⟩ ⟨List.toArray (α:=UInt8) (T3)⟩).run prog w=.ok (.string ⟨T4.toArray⟩) w:=hT4▸bf (acc) (T3) (by(try simp only[List.length_cons,List.length_nil]);omega);have HT4:=ae hT4;clear hT4;have hfX:Fr No w2 (wr.alloc (.cells #[.string ⟨fn.toArray⟩,.string ⟨fv.toArray⟩] 181)):=hfr.alloc _;have HfX:=ae hfX;clear hacc hfn hfv hcell hf hle hle2 hfX;go_wp2_with fail;go_roundg (gk-1);(case measure=>omega);(case rel=>refine⟨k+1,by omega,by go_num,?_,HfX.out⟩;rw[Ht.out,←List.append_assoc,Zw.out,←HT4.out,←HT3.out,←HT2.out,←HT1.out];simp));(·(have hlt':¬(k:Int)<(r.fields.length:Int):=by omega);(obtain rfl:k=r.fields.length:=by omega);rw[List.take_length];obtain⟨acc,hacc⟩:=ak (S4++Cr.dQ r.fields);(have ahE:acc.length≤300000000:=by rw[List.take_length]at hle;rw[List.take_length]at hle2;rw[←hacc,List.length_append];omega);rw[hacc];have Zw:=ae hacc;clear hacc hle hle2;have Q2:=hfr.cell q2' id;have Q3:=hfr.cell q3' id;have lb:=hb;(cases hcl:r.close);(·rw[hcl]at Q3 HE;obtain⟨U1,NG⟩:∃Z0:Str,acc++[99,111,110,116,101,110,116,45,108,101,110,103,116,104,58,32]=Z0:=⟨_,rfl⟩;(have lU1:U1.length=List.length (α:=UInt8) (acc)+List.length (α:=UInt8) ([99,111,110,116,101,110,116,45,108,101,110,103,116,104,58,32]):=by rw[←NG,List.length_append]);(try simp only[List.length_cons,List.length_nil]at lU1);have cU1:∀w,(Op.stringOp .add ⟨List.toArray (α:=UInt8) (acc)⟩ ⟨List.toArray (α:=UInt8) ([99,111,110,116,101,110,116,45,108,101,110,103,116,104,58,32])⟩).run prog w=.ok (.string ⟨U1.toArray⟩) w:=NG▸bf (acc) ([99,111,110,116,101,110,116,45,108,101,110,103,116,104,58,32]) (by(try simp only[List.length_cons,List.length_nil]);omega);have HU1:=ae NG;clear NG;obtain⟨U2,NH⟩:∃Z0:Str,U1++J=Z0:=⟨_,rfl⟩;(have lU2:U2.length=List.length (α:=UInt8) (U1)+List.length (α:=UInt8) (J):=by rw[←NH,List.length_append]);(try simp only[List.length_cons,List.length_nil]at lU2);have cU2:∀w,(Op.stringOp .add ⟨List.toArray (α:=UInt8) (U1)⟩ ⟨List.toArray (α:=UInt8) (J)⟩).run prog w=.ok (.string ⟨U2.toArray⟩) w:=NH▸bf (U1) (J) (by(try simp only[List.length_cons,List.length_nil]);omega);have HU2:=ae NH;clear NH;obtain⟨U3,Xl⟩:∃Z0:Str,U2++[13,10,13,10]=Z0:=⟨_,rfl⟩;(have lU3:U3.length=List.length (α:=UInt8) (U2)+List.length (α:=UInt8) ([13,10,13,10]):=by rw[←Xl,List.length_append]);(try simp only[List.length_cons,List.length_nil]at lU3);have cU3:∀w,(Op.stringOp .add ⟨List.toArray (α:=UInt8) (U2)⟩ ⟨List.toArray (α:=UInt8) ([13,10,13,10])⟩).run prog w=.ok (.string ⟨U3.toArray⟩) w:=Xl▸bf (U2) ([13,10,13,10]) (by(try simp only[List.length_cons,List.length_nil]);omega);have HU3:=ae Xl;clear Xl;obtain⟨U4,Xm⟩:∃Z0:Str,U3++r.body=Z0:=⟨_,rfl⟩;(have lU4:U4.length=List.length (α:=UInt8) (U3)+List.length (α:=UInt8) (r.body):=by rw[←Xm,List.length_append]);(try simp only[List.length_cons,List.length_nil]at lU4);have cU4:∀w,(Op.stringOp .add ⟨List.toArray (α:=UInt8) (U3)⟩ ⟨List.toArray (α:=UInt8) (r.body)⟩).run prog w=.ok (.string ⟨U4.toArray⟩) w:=Xm▸bf (U3) (r.body) (by(try simp only[List.length_cons,List.length_nil]);omega);have HU4:=ae Xm;clear Xm;clear hcl;go_wp2_with fail;refine aZ (Fr No) [0,1,2,3,4,8,9,105,6,7,10,11] ?_;(iterate 7 (refine aV (fun w' hR=>Fr.cell hR Q2 id) ?_));refine aj fun K hK=>?_;refine(HJ.out _ ((Hf2.out.trans hfr ai).drew)).mono ?_;rintro e w5 ⟨rfl,hf5⟩;refine hK _ _ hf5 ?_;refine aao ?_;(iterate 4 refine aS ?_);refine aQ ?_;go_wp2_with fail;go_ret;refine⟨?_,((Hf2.out.trans hfr ai).drew).trans hf5 ai⟩;rw[HE.out,←HU4.out,←HU3.out,←HU2.out,←HU1.out,←Zw.out,←HS4.out,←HS3.out,←HS2.out,←HS1.out];simp[Cr.AZ,Cr.rX,Cr.uS]);(·rw[hcl]at Q3 HE;obtain⟨U0,hU0⟩:∃Z0:Str,acc++[99,111,110,110,101,99,116,105,111,110,58,32,99,108,111,115,101,13,10]=Z0:=⟨_,rfl⟩;(have lU0:U0.length=List.length (α:=UInt8) (acc)+List.length (α:=UInt8) ([99,111,110,110,101,99,116,105,111,110,58,32,99,108,111,115,101,13,10]):=by rw[←hU0,List.length_append]);(try simp only[List.length_cons,List.length_nil]at lU0);have cU0:∀w,(Op.stringOp .add ⟨List.toArray (α:=UInt8) (acc)⟩ ⟨List.toArray (α:=UInt8) ([99,111,110,110,101,99,116,105,111,110,58,32,99,108,111,115,101,13,10])⟩).run prog w=.ok (.string ⟨U0.toArray⟩) w:=hU0▸bf (acc) ([99,111,110,110,101,99,116,105,111,110,58,32,99,108,111,115,101,13,10]) (by(try simp only[List.length_cons,List.length_nil]);omega);have HU0:=ae hU0;clear hU0;obtain⟨U1,NG⟩:∃Z0:Str,U0++[99,111,110,116,101,110,116,45,108,101,110,103,116,104,58,32]=Z0:=⟨_,rfl⟩;(have lU1:U1.length=List.length (α:=UInt8) (U0)+List.length (α:=UInt8) ([99,111,110,116,101,110,116,45,108,101,110,103,116,104,58,32]):=by rw[←NG,List.length_append]);(try simp only[List.length_cons,List.length_nil]at lU1);have cU1:∀w,(Op.stringOp .add ⟨List.toArray (α:=UInt8) (U0)⟩ ⟨List.toArray (α:=UInt8) ([99,111,110,116,101,110,116,45,108,101,110,103,116,104,58,32])⟩).run prog w=.ok (.string ⟨U1.toArray⟩) w:=NG▸bf (U0) ([99,111,110,116,101,110,116,45,108,101,110,103,116,104,58,32]) (by(try simp only[List.length_cons,List.length_nil]);omega);have HU1:=ae NG;clear NG;obtain⟨U2,NH⟩:∃Z0:Str,U1++J=Z0:=⟨_,rfl⟩;(have lU2:U2.length=List.length (α:=UInt8) (U1)+List.length (α:=UInt8) (J):=by rw[←NH,List.length_append]);(try simp only[List.length_cons,List.length_nil]at lU2);have cU2:∀w,(Op.stringOp .add ⟨List.toArray (α:=UInt8) (U1)⟩ ⟨List.toArray (α:=UInt8) (J)⟩).run prog w=.ok (.string ⟨U2.toArray⟩) w:=NH▸bf (U1) (J) (by(try simp only[List.length_cons,List.length_nil]);omega);have HU2:=ae NH;clear NH;obtain⟨U3,Xl⟩:∃Z0:Str,U2++[13,10,13,10]=Z0:=⟨_,rfl⟩;(have lU3:U3.length=List.length (α:=UInt8) (U2)+List.length (α:=UInt8) ([13,10,13,10]):=by rw[←Xl,List.length_append]);(try simp only[List.length_cons,List.length_nil]at lU3);have cU3:∀w,(Op.stringOp .add ⟨List.toArray (α:=UInt8) (U2)⟩ ⟨List.toArray (α:=UInt8) ([13,10,13,10])⟩).run prog w=.ok (.string ⟨U3.toArray⟩) w:=Xl▸bf (U2) ([13,10,13,10]) (by(try simp only[List.length_cons,List.length_nil]);omega);have HU3:=ae Xl;clear Xl;obtain⟨U4,Xm⟩:∃Z0:Str,U3++r.body=Z0:=⟨_,rfl⟩;(have lU4:U4.length=List.length (α:=UInt8) (U3)+List.length (α:=UInt8) (r.body):=by rw[←Xm,List.length_append]);(try simp only[List.length_cons,List.length_nil]at lU4);have cU4:∀w,(Op.stringOp .add ⟨List.toArray (α:=UInt8) (U3)⟩ ⟨List.toArray (α:=UInt8) (r.body)⟩).run prog w=.ok (.string ⟨U4.toArray⟩) w:=Xm▸bf (U3) (r.body) (by(try simp only[List.length_cons,List.length_nil]);omega);have HU4:=ae Xm;clear Xm;clear hcl;go_wp2_with fail;refine aZ (Fr No) [0,1,2,3,4,8,9,105,6,7,10,11] ?_;(iterate 7 (refine aV (fun w' hR=>Fr.cell hR Q2 id) ?_));refine aj fun K hK=>?_;refine(HJ.out _ ((Hf2.out.trans hfr ai).drew)).mono ?_;rintro e w5 ⟨rfl,hf5⟩;refine hK _ _ hf5 ?_;refine aao ?_;(iterate 4 refine aS ?_);refine aQ ?_;go_wp2_with fail;go_ret;refine⟨?_,((Hf2.out.trans hfr ai).drew).trans hf5 ai⟩;rw[HE.out,←HU4.out,←HU3.out,←HU2.out,←HU1.out,←HU0.out,←Zw.out,←HS4.out,←HS3.out,←HS2.out,←HS1.out];simp[Cr.AZ,Cr.rX,Cr.uS])))
theorem KN (w:World) (s:Str) (hs:s.length≤1000000):Calls prog 214 #[.string ⟨s.toArray⟩] w fun e w'=>e=.returned (.bool (Cr.rW s))∧w'=w:=by
 cases s with
 |nil=>go_enter func214,ntmps214;go_wp2_with fail;go_ret;exact⟨rfl,rfl⟩
 |cons x t=>
  have HE:=ae (show Cr.rW (x::t)=decide (((x::t).length:Int)≤40)by
    unfold Cr.rW
    simp only[List.isEmpty_cons,Bool.not_false,Bool.true_and]
    rw[decide_eq_decide]
    omega)
  rw[HE.out];go_enter func214,ntmps214;go_wp2_with fail;go_ret;exact⟨rfl,rfl⟩
end Go.Proofs.YthcbjeeajoliiaaGreatDoor
