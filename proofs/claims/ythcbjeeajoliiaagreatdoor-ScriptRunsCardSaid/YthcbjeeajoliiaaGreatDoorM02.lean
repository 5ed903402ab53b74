/- Lemmas for ScriptRuns. -/
import Derived.Test.YthcbjeeajoliiaaGreatDoorChecked
import Derived.WalkLawsBesides
import Derived.Handy
import Derived.Laws.BitsAllLaws
import Derived.Test.YthcbjeeajoliiaaGreatDoorM00
import Derived.Test.YthcbjeeajoliiaaGreatDoorM01
set_option maxRecDepth 100000
set_option maxHeartbeats 4000000
set_option linter.unusedVariables false
set_option linter.unusedSimpArgs false
namespace Go.Proofs.YthcbjeeajoliiaaGreatDoor
open Go.RowKit
open Cr (Str jo)
open Tryz
def JU (P:Nat→Prop) (w:World) (gb:Nat) (bs:Str):Prop:=
  ∃A c,aO w gb 51 #[.slice A bs.length c]∧bs.length≤c∧Rd P w A (lh bs)
theorem JU.fr {P S:Nat→Prop} {w w':World} {gb:Nat} {bs:Str} (h:JU P w gb bs) (hf:Fr S w w') (hn:¬S gb) (hP:∀k,P k→¬S k):JU P w' gb bs:=by obtain⟨A,c,hb,hc,hr⟩:=h;exact⟨A,c,hb.fr hf hn,hc,hr.fr hf hP⟩
theorem Wp (gb:Nat) (A:Option Addr) (c:Nat) (w:World) (hb:w.cell? ⟨gb,0,none⟩=some (.slice A 0 c)):Calls prog 41 #[.pointer (some ⟨gb,0,none⟩)] w fun e w'=>e=.returned (.int .i64 0)∧w=w':=by go_enter func41,ntmps41;go_wp2;go_ret;exact⟨rfl,rfl⟩
theorem Ti (gb:Nat) (ad:Addr) (n c:Nat) (x:UInt8) (w:World) (hb:w.cell? ⟨gb,0,none⟩=some (.slice (some ad) n c)) (hf:w.frozen? ⟨gb,0,none⟩=false) (hn:0<n) (hn2:(n:Int)≤4611686018427387904) (hnc:(n:Int)≤c) (hx:w.cell? ad=some (.int .u8 x.toNat)):Calls prog 41 #[.pointer (some ⟨gb,0,none⟩)] w fun e w'=>e=.returned (.int .i64 x.toNat)∧w.setCell ⟨gb,0,none⟩ (.slice (if c=1 then some ad else some (ad.add 1)) (n-1) (c-1))=w':=by(have hne:((n:Int)==0)=false:=by simp;omega);(have hlt:(x.toNat:Int)<256:=by have:=x.toNat_lt;omega);go_enter func41,ntmps41;go_wp2;(all_goals (go_ret;exact⟨rfl,rfl⟩))
theorem next_any (P:Nat→Prop) (gb:Nat) (bs:Str) (w:World) (h:JU P w gb bs) (hP:¬P gb) (hn:bs.length≤4611686018427387904):Calls prog 41 #[.pointer (some ⟨gb,0,none⟩)] w fun e w'=>e=.returned (.int .i64 (bs.headD 0).toNat)∧JU P w' gb bs.tail∧Fr (fun k=>k=gb) w w':=by obtain⟨A,c,hb,hc,hr⟩:=h;(cases bs with|nil=>(refine(Wp gb A c w (hb.cell 0)).mono ?_;rintro e w' ⟨rfl,rfl⟩;exact⟨rfl,⟨A,c,hb,hc,hr⟩,Fr.refl _ _⟩)|cons x l=>(obtain⟨ad,rfl,hp,hs,hcell⟩:=hr (by simp[lh]);have h0:=hcell 0 (.int .u8 x.toNat) (by simp[lh]);(have had:ad=⟨ad.block,ad.off+0,none⟩:=by cases ad;simp_all);rw[←had]at h0;refine(Ti gb ad (x::l).length c x w (hb.cell 0) (hb.frozen 0) (by simp) (by omega) (by omega) h0).mono ?_;rintro e w' ⟨rfl,rfl⟩;refine⟨rfl,⟨if c=1 then some ad else some (ad.add 1),c-1,?_,by simp at hc;simp;omega,?_⟩,(Fr.refl (fun k=>k=gb) w).setCell (p:=⟨gb,0,none⟩) (fun _=>rfl) _⟩;(·simpa using hb.aA 0 _);(·intro hx;have hr':Rd P (w.setCell ⟨gb,0,none⟩ (.slice (if c=1 then some ad else some (ad.add 1)) ((x::l).length-1) (c-1))) (some ad) (lh (x::l)):=hr.fr ((Fr.refl (fun k=>k=gb) w).setCell (p:=⟨gb,0,none⟩) (fun _=>rfl) _) (fun k hk e=>hP (e▸hk));(have hll:l≠[]:=by rintro rfl;simp[lh]at hx);(have als:1≤l.length:=by cases l with|nil=>exact absurd rfl hll|cons a b=>simp);have:=hr'.Rh (n:=(x::l).length) (c:=c) (k:=1) (by simp;omega) hc 1;rw[Me]at this;exact this hx)))
end Go.Proofs.YthcbjeeajoliiaaGreatDoor
