/- (this seat's shelf holds both sorts) -/
import Derived.Test.YtgjajhopjcdflaaGreatFkU
import Derived.Test.YtgjajhopjcdflaaGreatFkShelf
