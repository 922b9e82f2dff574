/- Lemmas of the proof. No condition. -/
import Derived.Test.YtkkfmkhbdoeglabGreatDoorG31
set_option maxRecDepth 100000
namespace Go.Proofs.YtkkfmkhbdoeglabGreatDoor
open Go.Proofs.Tryz
open Go.RowKit Go.Shelf
theorem J9:Ad:=fun s B q d h i j b hq l=>JM s B q d h i j b hq l
open Go.ChangeShapes Go.WideShapes Go.ChangeAt Go.Deep
theorem IZ{cs:List Value}(h:List.length cs=6):∃a b c d e f,cs=[a,b,c,d,e,f]:=by
 match cs,h with
 | [a,b,c,d,e,f],_=>exact⟨a,b,c,d,e,f,rfl⟩
theorem Qd:prog.cellsOf 88=6:=by kernel_rfl
theorem MG:prog.bytesOf 88=72:=by kernel_rfl
instance:Inhabited (yo×Value):=⟨(⟨0,0,0,0,[],[]⟩,.bool false)⟩
def P7(w:World)(cs:List Value)(x:yo×Value):Prop:=cs=[.int .i64 x.1.kind,.int .i64 x.1.A,.int .i64 x.1.B,.int .i64 x.1.C,.string ⟨List.toArray x.1.S⟩,x.2]/\zj x.1.kind/\zj x.1.A/\zj x.1.B/\zj x.1.C/\List.length x.1.S<=reachBytes/\KD w [x.2] x.1.iS
theorem Jd:qb 88 P7:=by intro H enc w base spare held fuel cs x h m;obtain⟨hl,a,ha⟩:=mw underlying88 h m 0 _ rfl po;obtain⟨-,b,i⟩:=mw underlying88 h m 1 _ rfl po;obtain⟨-,c,hc⟩:=mw underlying88 h m 2 _ rfl po;obtain⟨-,d,j⟩:=mw underlying88 h m 3 _ rfl po;obtain⟨-,s,l⟩:=mw underlying88 h m 4 _ rfl wX;obtain⟨-,k,hk⟩:=mw underlying88 h m 5 _ rfl Je;have ha:O8 w ((cs.drop 0).take (prog.cellsOf 3)) a:=ha;have i:O8 w ((cs.drop 1).take (prog.cellsOf 3)) b:=i;have hc:O8 w ((cs.drop 2).take (prog.cellsOf 3)) c:=hc;have j:O8 w ((cs.drop 3).take (prog.cellsOf 3)) d:=j;have l:KF w ((cs.drop 4).take (prog.cellsOf 9)) s:=l;have hk:KD w ((cs.drop 5).take (prog.cellsOf 49)) k:=hk;rw[On]at ha i hc j;rw[Pw]at l;rw[Qx]at hk;rw[Qd]at hl;obtain⟨c0,c1,c2,c3,c4,c5,rfl⟩:=IZ hl;have q:=Cq.i64 ha;have r:=Cq.i64 i;have u:=Cq.i64 hc;have id:=Cq.i64 j;obtain⟨ha,-⟩:=ha;obtain⟨i,-⟩:=i;obtain⟨hc,-⟩:=hc;obtain⟨j,-⟩:=j;obtain⟨l,o⟩:=l;simp at ha i hc j l;exact⟨(⟨a,b,c,d,s,k⟩,c5),by rw[ha,i,hc,j,l],q,r,u,id,o,hk⟩
def Ei:=yr 6 1954687338211 P7
theorem wo:qb 84 Ei:=ug underlying84 Qd (by omega) (fun n h=>by rw[MG]at h;unfold reachBytes at h;omega) Jd
theorem Ei.view{w:World}{v:Value}{l:List (yo×Value)}(h:Ei w [v] l):JY w v (l.map (·.1)) (l.map (·.2)):=by
 obtain⟨hm,a,cap,y,hc,m⟩:=h;cases y;refine⟨by simp,⟨a,cap,by rw[aB],by rw[aB];exact hc,fun i j=>?_⟩,fun i j=>?_⟩
 .rw[aB]at j;obtain⟨b,off,rfl,o,hl,d,B⟩:=m i j;have q:=d 0 (by omega);have h1:=d 1 (by omega);have r:=d 2 (by omega);have s:=d 3 (by omega);have u:=d 4 (by omega);have x:=d 5 (by omega);rw[B.1]at q h1 r s u x;refine⟨b,off,rfl,?_,?_,?_,?_,?_,?_⟩<;>simp[j]<;>first|simpa using q|simpa using h1|simpa using r|simpa using s|simpa using u|simpa using x
 .rw[aB]at j;obtain⟨b,off,rfl,o,hl,d,-,C,D,E,F,M,R⟩:=m i j;obtain⟨S,U,V⟩:=R.view;simp only[eA,aD,bg,ah j,et,bZ];exact⟨⟨C,D,E,F,by unfold reachBytes at M;omega,U,S⟩,V⟩
end Go.Proofs.YtkkfmkhbdoeglabGreatDoor
