/- Lemmas for ScriptRuns. -/
import Derived.Shelf.Strings.Builder1
import Derived.Shelf.Strings.Builder2
import Derived.Shelf.Strings.OnBuilder
import Derived.Shelf.LaysM
import Derived.Shelf.Sort.Plain
import Derived.Shelf.Strings.Prefix
import Derived.Shelf.Slices.Turned
import Derived.Shelf.Slices.In.SortNone
import Derived.Test.YthcbjeeajoliiaaGreatDoorM19
set_option maxRecDepth 100000
set_option maxHeartbeats 4000000
set_option linter.unusedVariables false
set_option linter.unusedSimpArgs false
namespace Go.Proofs.YthcbjeeajoliiaaGreatDoor
open Go.Shelf
open Tryz
def Sj.lays156_ren:Go.Shelf.Ren:=⟨fun|156=>162|165=>195|166=>36|169=>40|240=>61|241=>217|276=>91|277=>221|n=>n,fun|31=>68|9=>9|3=>3|4=>4|0=>0|20=>20|72=>75|76=>79|70=>73|37=>51|75=>78|127=>125|164=>171|5=>5|80=>86|n=>n,fun|n=>n⟩
theorem Sj.lays156:Go.Proofs.Lays.n156 prog Sj.lays156_ren:={
  mixed:=by kernel_rfl,
  f156:=func162.trans (congrArg some (by kernel_rfl)),
  f165:=func195.trans (congrArg some (by kernel_rfl)),
  f166:=func36.trans (congrArg some (by kernel_rfl)),
  f169:=func40.trans (congrArg some (by kernel_rfl)),
  f240:=func61.trans (congrArg some (by kernel_rfl)),
  f241:=func217.trans (congrArg some (by kernel_rfl)),
  f276:=func91.trans (congrArg some (by kernel_rfl)),
  f277:=func221.trans (congrArg some (by kernel_rfl)),
  t0:=underlying0,
  a0:=Tryz.isAgg0,
  z0:=Tryz.sizeOf0,
  v0:=Tryz.zeroValue0,
  t3:=underlying3,
  a3:=Tryz.isAgg3,
  z3:=Tryz.sizeOf3,
  v3:=Tryz.zeroValue3,
  t4:=underlying4,
  a4:=Tryz.isAgg4,
  z4:=Tryz.sizeOf4,
  v4:=Tryz.zeroValue4,
  t9:=underlying9,
  a9:=Tryz.isAgg9,
  z9:=Tryz.sizeOf9,
  v9:=Tryz.zeroValue9,
  t20:=underlying20,
  a20:=Tryz.isAgg20,
  z20:=Tryz.sizeOf20,
  v20:=Tryz.zeroValue20,
  t31:=underlying68,
  a31:=Tryz.isAgg68,
  z31:=Tryz.sizeOf68,
  v31:=Tryz.zeroValue68,
  t37:=underlying51,
  a37:=Tryz.isAgg51,
  z37:=Tryz.sizeOf51,
  v37:=Tryz.zeroValue51,
  t70:=underlying73,
  a70:=Tryz.isAgg73,
  z70:=Tryz.sizeOf73,
  v70:=Tryz.zeroValue73,
  t72:=underlying75,
  a72:=Tryz.isAgg75,
  z72:=Tryz.sizeOf75,
  v72:=Tryz.zeroValue75,
  t75:=underlying78,
  a75:=Tryz.isAgg78,
  z75:=Tryz.sizeOf78,
  v75:=Tryz.zeroValue78,
  t76:=underlying79,
  a76:=Tryz.isAgg79,
  z76:=Tryz.sizeOf79,
  v76:=Tryz.zeroValue79,
  t127:=underlying125,
  a127:=Tryz.isAgg125,
  z127:=Tryz.sizeOf125,
  v127:=Tryz.zeroValue125,
  t164:=underlying171,
  a164:=Tryz.isAgg171,
  z164:=Tryz.sizeOf171,
  v164:=Tryz.zeroValue171}
theorem Sj.Builder_Extra_156:Builder.Extra prog Sj.lays156_ren:={
  sizeBuilder:=by kernel_rfl,
  liesBuilder:=by kernel_rfl,
  t5:=underlying5,
  a5:=Tryz.isAgg5,
  z5:=Tryz.sizeOf5,
  v5:=Tryz.zeroValue5,
  infoByte:=by kernel_rfl,
  cellsByte:=by kernel_rfl,
  sizeByte:=by kernel_rfl,
  neB5:=by decide}
open Go.RowKit in
theorem Sj.strings_Join_none (a:Option Addr) (c:Nat) (sep:ByteArray) (w:World):
    Calls prog 162 #[.slice a 0 c,.string sep] w fun e w'=>e=.returned (.string ⟨#[]⟩)∧w'=w:=Any.strings_Join_none Sj.lays156 Sj.Builder_Extra_156 a c sep w
open Go.RowKit in
theorem Sj.strings_Join (bk o c:Nat) (xs:List ByteArray) (sep:ByteArray) (w:World) (hcells:∀(j:Nat) x,xs[j]? =some x→w.cell? ⟨bk,o+j,none⟩=some (.string x)) (hbk:bk<w.heap.size) (hN:xs.length≤140737488355328) (hcap:xs.length≤c) (hlen:(Lib.join (xs.map (·.data.toList)) sep.data.toList).length≤140737488355328):
    Calls prog 162 #[.slice (some ⟨bk,o,none⟩) xs.length c,.string sep] w fun e w'=>e=.returned (.string ⟨(Lib.join (xs.map (·.data.toList)) sep.data.toList).toArray⟩)∧Below w.heap.size w w':=Any.strings_Join Sj.lays156 Sj.Builder_Extra_156 bk o c xs sep w hcells hbk hN hcap hlen
def Sj.Nv:Go.Shelf.Ren:=⟨fun|190=>126|125=>153|258=>152|128=>189|129=>132|302=>180|303=>181|304=>182|305=>183|306=>184|307=>185|308=>186|309=>187|310=>188|333=>208|329=>209|330=>210|334=>211|335=>212|336=>213|344=>220|n=>n,fun|31=>68|9=>9|3=>3|46=>87|0=>0|51=>220|53=>194|4=>4|183=>265|182=>264|131=>147|5=>5|218=>285|222=>289|228=>295|229=>296|n=>n,fun|n=>n⟩
theorem Sj.lays190:Go.Proofs.Lays.n190 prog Sj.Nv:={
  mixed:=by kernel_rfl,
  f125:=func153.trans (congrArg some (by kernel_rfl)),
  f128:=func189.trans (congrArg some (by kernel_rfl)),
  f129:=func132.trans (congrArg some (by kernel_rfl)),
  f190:=func126.trans (congrArg some (by kernel_rfl)),
  f258:=func152.trans (congrArg some (by kernel_rfl)),
  f302:=func180.trans (congrArg some (by kernel_rfl)),
  f303:=func181.trans (congrArg some (by kernel_rfl)),
  f304:=func182.trans (congrArg some (by kernel_rfl)),
  f305:=func183.trans (congrArg some (by kernel_rfl)),
  f306:=func184.trans (congrArg some (by kernel_rfl)),
  f307:=func185.trans (congrArg some (by kernel_rfl)),
  f308:=func186.trans (congrArg some (by kernel_rfl)),
  f309:=func187.trans (congrArg some (by kernel_rfl)),
  f310:=func188.trans (congrArg some (by kernel_rfl)),
  f329:=func209.trans (congrArg some (by kernel_rfl)),
  f330:=func210.trans (congrArg some (by kernel_rfl)),
  f333:=func208.trans (congrArg some (by kernel_rfl)),
  f334:=func211.trans (congrArg some (by kernel_rfl)),
  f335:=func212.trans (congrArg some (by kernel_rfl)),
  f336:=func213.trans (congrArg some (by kernel_rfl)),
  f344:=func220.trans (congrArg some (by kernel_rfl)),
  t0:=underlying0,
  a0:=Tryz.isAgg0,
  z0:=Tryz.sizeOf0,
  v0:=Tryz.zeroValue0,
  t3:=underlying3,
  a3:=Tryz.isAgg3,
  z3:=Tryz.sizeOf3,
  v3:=Tryz.zeroValue3,
  t4:=underlying4,
  a4:=Tryz.isAgg4,
  z4:=Tryz.sizeOf4,
  v4:=Tryz.zeroValue4,
  t5:=underlying5,
  a5:=Tryz.isAgg5,
  z5:=Tryz.sizeOf5,
  v5:=Tryz.zeroValue5,
  t9:=underlying9,
  a9:=Tryz.isAgg9,
  z9:=Tryz.sizeOf9,
  v9:=Tryz.zeroValue9,
  t31:=underlying68,
  a31:=Tryz.isAgg68,
  z31:=Tryz.sizeOf68,
  v31:=Tryz.zeroValue68,
  t46:=underlying87,
  a46:=Tryz.isAgg87,
  z46:=Tryz.sizeOf87,
  v46:=Tryz.zeroValue87,
  t51:=underlying220,
  a51:=Tryz.isAgg220,
  z51:=Tryz.sizeOf220,
  v51:=Tryz.zeroValue220,
  t53:=underlying194,
  a53:=Tryz.isAgg194,
  z53:=Tryz.sizeOf194,
  v53:=Tryz.zeroValue194,
  t131:=underlying147,
  a131:=Tryz.isAgg147,
  z131:=Tryz.sizeOf147,
  v131:=Tryz.zeroValue147,
  t182:=underlying264,
  a182:=Tryz.isAgg264,
  z182:=Tryz.sizeOf264,
  v182:=Tryz.zeroValue264,
  t183:=underlying265,
  a183:=Tryz.isAgg265,
  z183:=Tryz.sizeOf265,
  v183:=Tryz.zeroValue265,
  t218:=underlying285,
  a218:=Tryz.isAgg285,
  z218:=Tryz.sizeOf285,
  v218:=Tryz.zeroValue285,
  t222:=underlying289,
  a222:=Tryz.isAgg289,
  z222:=Tryz.sizeOf289,
  v222:=Tryz.zeroValue289,
  t228:=underlying295,
  a228:=Tryz.isAgg295,
  z228:=Tryz.sizeOf295,
  v228:=Tryz.zeroValue295,
  t229:=underlying296,
  a229:=Tryz.isAgg296,
  z229:=Tryz.sizeOf296,
  v229:=Tryz.zeroValue296}
open Go.Sort Go.RowKit in
theorem Sj.slices_Sort_string (blk off cap:Nat) (ss:List (List UInt8)) (w:World) (hH:Holds encStr w blk off ss.toArray) (hblk:blk<w.heap.size) (hsz:ss.length<4611686018427387904):
    Calls prog 126 #[.slice (some ⟨blk,off,none⟩) ss.length cap] w fun e w'=>
      e=.returned (.tuple #[])∧∃n os,w'=grow (putRow encStr (Sort.ahead w n) blk off (ss.mergeSort fun x y=>decide (x≤y)).toArray) os:=Any.slices_Sort_string Sj.lays190 blk off cap ss w hH hblk hsz
def Sj.lays99_ren:Go.Shelf.Ren:=⟨fun|99=>194|206=>216|n=>n,fun|9=>9|4=>4|3=>3|n=>n,fun|n=>n⟩
theorem Sj.lays99:Go.Proofs.Lays.n99 prog Sj.lays99_ren:={
  mixed:=by kernel_rfl,
  f99:=func194.trans (congrArg some (by kernel_rfl)),
  f206:=func216.trans (congrArg some (by kernel_rfl)),
  t3:=underlying3,
  a3:=Tryz.isAgg3,
  z3:=Tryz.sizeOf3,
  v3:=Tryz.zeroValue3,
  t4:=underlying4,
  a4:=Tryz.isAgg4,
  z4:=Tryz.sizeOf4,
  v4:=Tryz.zeroValue4,
  t9:=underlying9,
  a9:=Tryz.isAgg9,
  z9:=Tryz.sizeOf9,
  v9:=Tryz.zeroValue9}
open Go.RowKit Go.Lib in
theorem Sj.strings_HasPrefix (s p:ByteArray) (w:World):
    Calls prog 194 #[.string s,.string p] w fun e w'=>e=.returned (.bool (Lib.hasPrefix s.data.toList p.data.toList))∧w'=w:=Any.strings_HasPrefix Sj.lays99 s p w
def Sj.lays110_ren:Go.Shelf.Ren:=⟨fun|110=>125|109=>151|n=>n,fun|31=>68|9=>9|4=>4|3=>3|0=>0|n=>n,fun|n=>n⟩
theorem Sj.lays110:Go.Proofs.Lays.n110 prog Sj.lays110_ren:={
  mixed:=by kernel_rfl,
  f109:=func151.trans (congrArg some (by kernel_rfl)),
  f110:=func125.trans (congrArg some (by kernel_rfl)),
  t0:=underlying0,
  a0:=Tryz.isAgg0,
  z0:=Tryz.sizeOf0,
  v0:=Tryz.zeroValue0,
  t3:=underlying3,
  a3:=Tryz.isAgg3,
  z3:=Tryz.sizeOf3,
  v3:=Tryz.zeroValue3,
  t4:=underlying4,
  a4:=Tryz.isAgg4,
  z4:=Tryz.sizeOf4,
  v4:=Tryz.zeroValue4,
  t9:=underlying9,
  a9:=Tryz.isAgg9,
  z9:=Tryz.sizeOf9,
  v9:=Tryz.zeroValue9,
  t31:=underlying68,
  a31:=Tryz.isAgg68,
  z31:=Tryz.sizeOf68,
  v31:=Tryz.zeroValue68}
open Go.Lib in
theorem Sj.slices_Contains_string (b off n c:Nat) (zs:List ByteArray) (x:ByteArray) (w:World) (hz:n≤zs.length) (hbig:n≤9223372036854775807) (hc:∀j,j<zs.length→w.cell? ⟨b,off+j,none⟩=some (.string (zs.getD j ByteArray.empty))):
    Calls prog 125 #[.slice (some ⟨b,off,none⟩) n c,.string x] w fun e w'=>e=.returned (.bool (Lib.containsS (zs.take n) x))∧w'=w:=Any.slices_Contains_string Sj.lays110 b off n c zs x w hz hbig hc
open Go.Lib in
theorem Sj.slices_Contains_string_empty (a:Option Addr) (c:Nat) (x:ByteArray) (w:World):
    Calls prog 125 #[.slice a 0 c,.string x] w fun e w'=>e=.returned (.bool false)∧w'=w:=Any.slices_Contains_string_empty Sj.lays110 a c x w
open Go.RowKit Go.Sort in
theorem Sj.slices_Sort_string_none (p:Option Addr) (cap:Nat) (w:World):
    Calls prog 126 #[.slice p 0 cap] w fun e w'=>e=.returned (.tuple #[])∧w'=w:=Any.slices_Sort_string_none Sj.lays190 p cap w
open Go.RowKit Go.Sort
open Cr (Str)
theorem wz (a b:UInt8) (x y:Str):Cr.ltStr (a::x) (b::y)=if a<b then true else if a=b then Cr.ltStr x y else false:=rfl
theorem CO:∀(x y:Str),Cr.ltStr x y=true↔x<y
  |[],[]=>by simp[Cr.ltStr]
  |[],b::y=>by simp[Cr.ltStr]
  |a::x,[]=>by simp[Cr.ltStr]
  |a::x,b::y=>by
    rw[List.cons_lt_cons_iff,←CO x y,wz]
    by_cases h1:a<b
    · simp[h1]
    · by_cases h2:a=b
      · subst h2;simp[h1]
      · simp[h1,h2]
theorem xX:∀(x y:Str),Cr.ltStr x y=true→Cr.ltStr y x=false
  |[],[],h=>by simp[Cr.ltStr]at h
  |[],b::y,h=>by simp[Cr.ltStr]
  |a::x,[],h=>by simp[Cr.ltStr]at h
  |a::x,b::y,h=>by
    rw[wz]at h⊢
    by_cases h1:a<b
    · have h2:¬b<a:=fun h'=>by have:=UInt8.lt_iff_toNat_lt.1 h1;have:=UInt8.lt_iff_toNat_lt.1 h';omega
      have h3:¬b=a:=by rintro rfl;exact UInt8.lt_irrefl _ h1
      simp[h2,h3]
    · by_cases h2:a=b
      · subst h2
        simp only[if_neg h1,if_true]at h⊢
        exact xX x y h
      · simp[h1,h2]at h
theorem rY:∀(x y:Str),Cr.ltStr x y=false→Cr.ltStr y x=false→x=y
  |[],[],_,_=>rfl
  |[],b::y,h,_=>by simp[Cr.ltStr]at h
  |a::x,[],_,h=>by simp[Cr.ltStr]at h
  |a::x,b::y,h,h'=>by
    rw[wz]at h h'
    by_cases h1:a<b
    · simp[h1]at h
    · by_cases h2:a=b
      · subst h2
        simp only[if_neg h1,if_true]at h h'
        rw[rY x y h h']
      · have h3:b<a:=by
          have e:¬a.toNat=b.toNat:=fun e=>h2 (UInt8.toNat_inj.1 e)
          have h4:¬a.toNat<b.toNat:=fun h'=>h1 (UInt8.lt_iff_toNat_lt.2 h')
          exact UInt8.lt_iff_toNat_lt.2 (by omega)
        simp[h3]at h'
theorem xY:∀(x y z:Str),Cr.ltStr x y=true→Cr.ltStr y z=true→Cr.ltStr x z=true
  |x,y,[],_,h=>by cases y<;>simp[Cr.ltStr]at h
  |x,[],_::_,h,_=>by cases x<;>simp[Cr.ltStr]at h
  |[],_::_,_::_,_,_=>by simp[Cr.ltStr]
  |a::x,b::y,c::z,h,h'=>by
    rw[wz]at h h'⊢
    by_cases h1:a<b
    · by_cases h2:b<c
      · have:a<c:=by have:=UInt8.lt_iff_toNat_lt.1 h1;have:=UInt8.lt_iff_toNat_lt.1 h2;exact UInt8.lt_iff_toNat_lt.2 (by omega)
        simp[this]
      · by_cases h3:b=c
        · subst h3;simp[h1]
        · simp[h2,h3]at h'
    · by_cases h2:a=b
      · subst h2
        simp only[if_neg h1,if_true]at h
        by_cases h3:a<c
        · simp[h3]
        · by_cases h4:a=c
          · subst h4
            simp only[if_neg h3,if_true]at h'⊢
            exact xY x y z h h'
          · simp[h3,h4]at h'
      · simp[h1,h2]at h
def RG (x y:Str):Prop:=Cr.ltStr y x=false
theorem xZ (x:Str):∀l:List Str,(Cr.zL x l).Perm (x::l)
  |[]=>.refl _
  |y::l=>by
    unfold Cr.zL
    split
    · exact((xZ x l).cons y).trans (List.Perm.swap x y l)
    · exact .refl _
theorem iU:∀l:List Str,(Cr.sortStr l).Perm l
  |[]=>.refl _
  |x::l=>(xZ x _).trans ((iU l).cons x)
theorem zl (x:Str):∀l:List Str,l.Pairwise RG→(Cr.zL x l).Pairwise RG
  |[],_=>by simp[Cr.zL]
  |y::l,h=>by
    have ht:=List.pairwise_cons.1 h
    unfold Cr.zL
    split
    · rename_i hlt
      refine List.pairwise_cons.2 ⟨fun z hz=>?_,zl x l ht.2⟩
      rcases List.mem_cons.1 ((xZ x l).mem_iff.1 hz)with rfl|hz
      · exact xX _ _ hlt
      · exact ht.1 z hz
    · rename_i hlt
      have hlt':Cr.ltStr y x=false:=by simpa using hlt
      refine List.pairwise_cons.2 ⟨fun z hz=>?_,h⟩
      rcases List.mem_cons.1 hz with rfl|hz
      · exact hlt'
      · have hyz:Cr.ltStr z y=false:=ht.1 z hz
        show Cr.ltStr z x=false
        cases hzx:Cr.ltStr z x with
        |false=>rfl
        |true=>
          cases hxy:Cr.ltStr x y with
          |true=>rw[xY _ _ _ hzx hxy]at hyz;cases hyz
          |false=>rw[rY _ _ hxy hlt']at hzx;rw[hzx]at hyz;cases hyz
theorem oH:∀l:List Str,(Cr.sortStr l).Pairwise RG
  |[]=>.nil
  |x::l=>zl x _ (oH l)
theorem le_iff (x y:Str):(decide (x≤y))=!Cr.ltStr y x:=by have h1:x≤y↔¬y<x:=Iff.rfl;(by_cases h:y<x);(·simp[h1,h,(CO y x).2 h]);(·(have:Cr.ltStr y x=false:=by cases h2:Cr.ltStr y x with|false=>(rfl)|true=>(exact absurd ((CO _ _).1 h2) h));simp[h1,h,this])
theorem Zr (l:List Str):(l.mergeSort fun x y=>decide (x≤y))=Cr.sortStr l:=by(have hp:(l.mergeSort fun x y=>decide (x≤y)).Pairwise RG:=by refine(List.pairwise_mergeSort ?_ ?_ l).imp ?_;(·intro a b c h1 h2;rw[le_iff]at h1 h2⊢;simp only[Bool.not_eq_true']at h1 h2⊢;(cases hca:Cr.ltStr c a with|false=>(rfl)|true=>(cases hab:Cr.ltStr a b with|true=>(rw[xY _ _ _ hca hab]at h2;cases h2)|false=>(rw[rY _ _ hab h1]at hca;rw[hca]at h2;cases h2))));(·intro a b;rw[le_iff,le_iff];(cases h:Cr.ltStr b a with|false=>(rfl)|true=>(simp[xX _ _ h])));(·intro a b h;rw[le_iff]at h;(show Cr.ltStr b a=false);simpa using h));refine List.Perm.eq_of_pairwise ?_ hp (oH l) ((List.mergeSort_perm l _).trans (iU l).symm);intro a b _ _ h1 h2;exact rY _ _ h2 h1
theorem jB (l:List Str):(Cr.sortStr l).length=l.length:=(iU l).length_eq
theorem KJ (P:Nat→Prop) (w:World) (A:Option Addr) (c:Nat) (l:List Str) (x:Str) (hr:Rd P w A (aY l)) (hl:l.length≤1000000):Calls prog 125 #[.slice A l.length c,.string ⟨x.toArray⟩] w fun e w'=>e=.returned (.bool (l.contains x))∧w'=w:=by
 cases l with
 |nil=>exact Sj.slices_Contains_string_empty A c _ w
 |cons y l=>
  obtain⟨g,off,rfl,_,hcell⟩:=hr.form (by simp[aY])
  have:=Sj.slices_Contains_string g off (y::l).length c ((y::l).map fun s=>⟨s.toArray⟩) ⟨x.toArray⟩ w (by simp) (by omega) (fun j hj=>by
    rw[List.length_map]at hj
    rw[hcell j _ (dP (k:=j) (List.getElem?_eq_getElem hj)),List.getD_eq_getElem?_getD,List.getElem?_map,List.getElem?_eq_getElem hj]
    rfl)
  refine this.mono ?_;rintro e w' ⟨rfl,rfl⟩;refine⟨?_,rfl⟩;congr 2;rw[List.take_of_length_le (by simp)];have h1:=Go.Lib.containsS_iff ((y::l).map fun s=>(⟨s.toArray⟩:ByteArray)) ⟨x.toArray⟩;(have h2:(⟨x.toArray⟩:ByteArray)∈((y::l).map fun s=>(⟨s.toArray⟩:ByteArray))↔x∈(y::l):=by constructor;(·intro h;obtain⟨s,hs,he⟩:=List.mem_map.1 h;(have:s=x:=by have:=congrArg ByteArray.data he;simpa using congrArg Array.toList this);rw[←this];exact hs);(·exact fun h=>List.mem_map.2 ⟨x,h,rfl⟩));rw[h2]at h1;rw[Bool.eq_iff_iff,h1];simp
theorem P8 {w:World} {base g c:Nat} {l l':List Str} {n:Nat} {os:Array Obj} (hl:l'.length=l.length) (h:w.ownsRow base 9 1 (.slice (some ⟨g,0,none⟩) l.length c) l.length (aY l)):(grow (putRow encStr (Sort.ahead w n) g 0 l'.toArray) os).ownsRow base 9 1 (.slice (some ⟨g,0,none⟩) l.length c) l.length (aY l')∧Fr (fun k=>k=g) w (grow (putRow encStr (Sort.ahead w n) g 0 l'.toArray) os):=by obtain⟨h1,h2⟩:=h;(rcases h2 with⟨h2,_⟩|⟨g',cap,cur,h2,hb,hg,h3,h4,h5,h6⟩);(·cases h2);(·injection h2 with e1 e2 e3;injection e1 with e1;injection e1 with e1;subst e1 e3;(have hsz:(putRow encStr (Sort.ahead w n) g 0 l'.toArray).heap.size=w.heap.size:=by simp[putRow,mapBlock,Sort.ahead]);have hlt:=(Array.getElem?_eq_some_iff.1 hg).1;(have hblk:∀k,k<w.heap.size→k≠g→(grow (putRow encStr (Sort.ahead w n) g 0 l'.toArray) os).heap[k]? =w.heap[k]? :=by intro k hk hne;simp only[grow,Array.getElem?_append,hsz,hk,if_true];simp only[putRow,mapBlock,Sort.ahead,Array.getElem?_modify];rw[if_neg (Ne.symm hne)]);(have hnew:(grow (putRow encStr (Sort.ahead w n) g 0 l'.toArray) os).heap[g]? =some (.cells (putCells encStr 0 l'.toArray cur) 9 (0,0)):=by simp only[grow,Array.getElem?_append,hsz,hlt,if_true];simp only[putRow,mapBlock,Sort.ahead,Array.getElem?_modify,if_true,hg];rfl);refine⟨⟨by rw[dw,hl];simp,.inr ⟨g,c,putCells encStr 0 l'.toArray cur,rfl,hb,hnew,h3,h4,by simpa[putCells]using h5,?_⟩⟩,⟨rfl,rfl,rfl,by simp[hsz],fun k hk hn=>hblk k hk hn⟩⟩;apply List.ext_getElem?;intro j;rw[List.getElem?_take];(by_cases hj:j<l.length);(·(have hj':j<l'.length:=by omega);rw[if_pos (by simpa[dw]using hj),←Array.getElem?_toList.symm];(have hjc:j<cur.size:=by have:=h1;rw[←h6,List.length_take]at this;simp only[dw]at this h1;(have h7:cur.toList.length=cur.size:=by simp);omega);simp only[putCells,Array.getElem?_mapIdx,Array.getElem?_eq_getElem hjc,Option.map_some];rw[if_pos ⟨by omega,by simpa using hj'⟩,dP (List.getElem?_eq_getElem hj')];simp[encStr,hj']);(·rw[if_neg (by simpa[dw]using hj)];exact(List.getElem?_eq_none (by rw[dw];omega)).symm))
theorem Nw (w:World) (base:Nat) (v:Value) (l:List Str) (h:w.ownsRow base 9 1 v l.length (aY l)) (hl:l.length≤1000000):Calls prog 126 #[v] w fun e w'=>e=.returned (.tuple #[])∧w'.ownsRow base 9 1 v l.length (aY (Cr.sortStr l))∧Fr (fun k=>v.ownBlock=some k) w w':=by have h0:=h;(rcases h.2 with⟨rfl,h2⟩|⟨g,cap,cur,rfl,hb,hg,h3,h4,h5,h6⟩);(·obtain rfl:l=[]:=List.eq_nil_of_length_eq_zero h2;refine(Sj.slices_Sort_string_none none 0 w).mono ?_;rintro e w' ⟨rfl,rfl⟩;exact⟨rfl,h0,Fr.refl _ _⟩);(·have hrd:=Rd.vM h0;(have hH:Holds encStr w g 0 l.toArray:=by intro j hj;simp only[List.size_toArray]at hj;refine⟨?_,aO.frozen hg _⟩;obtain⟨ad,ha,_,_,hcell⟩:=hrd (by intro h;have:=dw l;rw[h]at this;simp at this;omega);injection ha with ha;subst ha;have hc:=hcell j _ (dP (List.getElem?_eq_getElem hj));rw[hc];simp[encStr,hj]);refine(Sj.slices_Sort_string g 0 cap l w hH (Array.getElem?_eq_some_iff.1 hg).1 (by omega)).mono ?_;rintro e w' ⟨rfl,n,os,rfl⟩;rw[Zr];obtain⟨k1,k2⟩:=P8 (n:=n) (os:=os) (jB l) h0;exact⟨rfl,k1,k2.mono fun k _ hk=>by subst hk;rfl⟩)
end Go.Proofs.YthcbjeeajoliiaaGreatDoor
